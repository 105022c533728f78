/-
  The walk of StripeNames. No condition.
-/
import Derived.Test.YtgbffkjfjkfiaaaDoorStP
import Derived.Test.YtgbffkjfjkfiaaaDoorSame
namespace Go.Proofs.YtgbffkjfjkfiaaaDoor
open Go.RowKit
theorem box2s (w : World) (t r t' r' : Int) : Sep ((w.alloc (.cells #[Value.int .i64 (t), Value.int .i64 (r)] 29)).alloc (.cells #[Value.int .i64 (t'), Value.int .i64 (r')] 29)) [blk (w.heap.size + 1) 29 #[Value.int .i64 (t'), Value.int .i64 (r')], blk w.heap.size 29 #[Value.int .i64 (t), Value.int .i64 (r)], old w] := by
  have := ((Sep.start w).alloc #[Value.int .i64 (t), Value.int .i64 (r)] 29).alloc #[Value.int .i64 (t'), Value.int .i64 (r')] 29
  simpa only [World.size_alloc] using this
def sameV (t r t' r' s : Int) : Bool := decide (0 ≤ ofV t r s) && (ofV t r s == ofV t' r' s)
set_option maxHeartbeats 1000000 in
theorem sameS_any (t r t' r' s : Int) (w : World) : Calls Tryd.prog 16 #[(.agg #[.int .i64 t, .int .i64 r]), (.agg #[.int .i64 t', .int .i64 r']), .int .i64 s] w fun e w' => e = .returned (.bool (sameV t r t' r' s)) ∧ Below w.heap.size w w' := by
  have hS := Lib.hid (box2s w t r t' r')
  obtain ⟨z, d0, d1, _⟩ := hS.out.b2
  obtain ⟨_, c0, c1, _⟩ := hS.out.to1.b2
  have H1 := Lib.hid (fun W => of_any t r s W)
  have H2 := Lib.hid (fun W => of_any t' r' s W)
  have E := Lib.hid (show sameV t r t' r' s = (decide (0 ≤ ofV t r s) && (ofV t r s == ofV t' r' s)) from rfl)
  generalize ofV t r s = x at *
  generalize ofV t' r' s = y at *
  by_cases h0 : 0 ≤ x
  · have e0 := decide_eq_true h0
    go_enter Tryd.func16, Tryd.ntmps16
    go_wp2_with fail
    refine (H1.out _).mono ?_
    rintro e w1 ⟨rfl, b1⟩
    replace hS := Lib.hid (hS.out.below b1)
    clear b1 c0 c1 d0 d1
    obtain ⟨_, d0, d1, _⟩ := hS.out.b2
    go_wp2_with fail
    refine (H2.out _).mono ?_
    rintro e w2 ⟨rfl, b2⟩
    replace hS := Lib.hid (hS.out.below b2)
    clear b2
    go_wp2_with fail
    go_ret
    exact ⟨by rw [E.out, e0]; rfl, hS.out.tail.tail.gold⟩
  · have e0 := decide_eq_false h0
    go_enter Tryd.func16, Tryd.ntmps16
    go_wp2_with fail
    refine (H1.out _).mono ?_
    rintro e w1 ⟨rfl, b1⟩
    replace hS := Lib.hid (hS.out.below b1)
    clear b1 c0 c1 d0 d1
    go_wp2_with fail
    go_ret
    exact ⟨by rw [E.out, e0]; rfl, hS.out.tail.tail.gold⟩
theorem rK_any (t r : Int) (w : World) : Calls Tryd.prog 13 #[.int .i64 t, .int .i64 r] w fun e w' => e = .returned (.agg #[.int .i64 t, .int .i64 r]) ∧ Below w.heap.size w w' := by
  go_enter Tryd.func13, Tryd.ntmps13
  go_wp2
  refine bodyPost_ret (v := (.agg #[.int .i64 t, .int .i64 r])) (by simp [results, Tryd.results13, go_sem, *]) rfl ⟨rfl, ?_⟩
  exact (Below.refl _ _).alloc (Nat.le_refl _) _
theorem txt37 : txt 3 7 = ⟨#[116, 51, 46, 114, 55]⟩ := by decide +kernel
theorem of_v (t r s x : Int) (w : World) (h : ofV t r s = x) : Calls Tryd.prog 10 #[(.agg #[.int .i64 t, .int .i64 r]), .int .i64 s] w fun e w' => e = .returned (.int .i64 x) ∧ Below w.heap.size w w' := by
  subst h
  exact of_any t r s w
theorem sameS_v (t r t' r' s : Int) (x : Bool) (w : World) (h : sameV t r t' r' s = x) : Calls Tryd.prog 16 #[(.agg #[.int .i64 t, .int .i64 r]), (.agg #[.int .i64 t', .int .i64 r']), .int .i64 s] w fun e w' => e = .returned (.bool x) ∧ Below w.heap.size w w' := by
  subst h
  exact sameS_any t r t' r' s w
theorem lv37 : lv 3 7 = 2 := by decide
theorem lvbad : lv (-1) 0 = -1 := by decide
theorem lvbad2 : lv 100 0 = -1 := by decide
theorem of_1 : ofV 3 7 1 = 0 := by unfold ofV; rw [if_pos (by rw [lv37]; decide)]; omega
theorem of_bad (s : Int) : ofV (-1) 0 s = -1 := by unfold ofV; rw [if_neg (fun h => h.2.2 lvbad)]
theorem of_bad2 (s : Int) : ofV 100 0 s = -1 := by unfold ofV; rw [if_neg (fun h => h.2.2 lvbad2)]
theorem of_n (s : Int) (h : ¬(1 ≤ s ∧ s ≤ 16)) : ofV 3 7 s = -1 := by unfold ofV; rw [if_neg (fun k => h ⟨k.1, k.2.1⟩)]
theorem cnt_one : cntL [(3, 7), (100, 0)] (1 : Nat) 1 = [1] := by
  have h : ((List.filter (fun x : Int × Int => ofV x.1 x.2 ((1 : Nat) : Int) == ((0 : Nat) : Int)) [(3, 7), (100, 0)]).length : Int) = 1 := by
    have e1 : (ofV 3 7 ((1 : Nat) : Int) == ((0 : Nat) : Int)) = true := by rw [show ((1 : Nat) : Int) = 1 from rfl, of_1]; rfl
    have e2 : (ofV 100 0 ((1 : Nat) : Int) == ((0 : Nat) : Int)) = false := by rw [of_bad2]; rfl
    simp only [List.filter_cons, e1, e2, List.filter_nil]
    rfl
  exact congrArg (fun x => [x]) h
theorem vi_ri {w : World} {v : Value} {l : List Int} {rs : List Res} (h : Sep w (vi v l :: rs)) : RI w v l := h.vec_ri
set_option maxHeartbeats 4000000 in
set_option maxRecDepth 100000 in
theorem stnames_walk (w : World) : Calls Tryd.prog 4 #[] w fun e w' => e = .returned (.bool true) ∧ Below w.heap.size w w' := by
  obtain ⟨X, hX⟩ : ∃ X : Nat, Hid (hashN 3 7 = X) := ⟨_, rfl⟩
  have HH := Lib.hid (fun W => hash_any 3 7 W)
  have HS := Lib.hid (fun W => sum_any ⟨#[116, 51, 46, 114, 55]⟩ W (by decide))
  rw [hX.out] at HH
  rw [show sumN (⟨#[116, 51, 46, 114, 55]⟩ : ByteArray).data.toList = X by rw [← hX.out, hashN, txt37]] at HS
  clear hX
  have O1 := Lib.hid (fun W => of_v 3 7 1 0 W of_1)
  have O0 := Lib.hid (fun W => of_v 3 7 0 (-1) W (of_n 0 (by decide)))
  have O17 := Lib.hid (fun W => of_v 3 7 17 (-1) W (of_n 17 (by decide)))
  have OB := Lib.hid (fun W => of_v (-1) 0 4 (-1) W (of_bad 4))
  have S4 := Lib.hid (fun W => sameS_v 3 7 (-1) 0 4 false W (by
    unfold sameV
    rw [of_bad]
    have := ofV_bd 3 7 4
    cases h : decide (0 ≤ ofV 3 7 4) with
    | false => rfl
    | true => rw [Bool.true_and, beq_eq_false_iff_ne]; have := of_decide_eq_true h; omega))
  have S16 := Lib.hid (fun W => sameS_v 3 7 3 7 16 true W (by
    unfold sameV
    have h : 0 ≤ ofV 3 7 16 := by unfold ofV; rw [if_pos (by rw [lv37]; decide)]; omega
    rw [decide_eq_true h, beq_self_eq_true]; rfl))
  have SN := Lib.hid (fun W => spread_no (.slice none 0 0) 17 W (by decide))
  have eX : ((X : Int) == (X : Int)) = true := beq_self_eq_true _
  go_enter Tryd.func4, Tryd.ntmps4
  go_wp2_with fail
  refine (lives_any _).mono ?_
  rintro e w1 ⟨rfl, b1⟩
  have hS0 := Lib.hid ((Sep.start w).below b1)
  clear b1
  go_wp2_with fail
  refine (rK_any _ _ _).mono ?_
  rintro e w2 ⟨rfl, b2⟩
  have hS := Lib.hid ((hS0.out.below b2).alloc #[Value.int .i64 (3), Value.int .i64 (7)] 29)
  clear b2 hS0
  obtain ⟨_, c0, c1, _⟩ := hS.out.b2
  go_wp2_with fail
  refine (HH.out _).mono ?_
  rintro e wN ⟨rfl, b2⟩
  replace hS := Lib.hid (hS.out.below b2)
  clear b2 c0 c1
  obtain ⟨_, c0, c1, _⟩ := hS.out.b2
  go_wp2_with fail
  refine (HS.out _).mono ?_
  rintro e wN ⟨rfl, b2⟩
  replace hS := Lib.hid (hS.out.below b2)
  clear b2 c0 c1
  obtain ⟨_, c0, c1, _⟩ := hS.out.b2
  go_wp2_with fail
  refine (O1.out _).mono ?_
  rintro e wN ⟨rfl, b2⟩
  replace hS := Lib.hid (hS.out.below b2)
  clear b2 c0 c1
  obtain ⟨_, c0, c1, _⟩ := hS.out.b2
  go_wp2_with fail
  refine (O0.out _).mono ?_
  rintro e wN ⟨rfl, b2⟩
  replace hS := Lib.hid (hS.out.below b2)
  clear b2 c0 c1
  obtain ⟨_, c0, c1, _⟩ := hS.out.b2
  go_wp2_with fail
  refine (O17.out _).mono ?_
  rintro e wN ⟨rfl, b2⟩
  replace hS := Lib.hid (hS.out.below b2)
  clear b2 c0 c1
  obtain ⟨_, c0, c1, _⟩ := hS.out.b2
  go_wp2_with fail
  refine (OB.out _).mono ?_
  rintro e wN ⟨rfl, b2⟩
  replace hS := Lib.hid (hS.out.below b2)
  clear b2 c0 c1
  obtain ⟨_, c0, c1, _⟩ := hS.out.b2
  go_wp2_with fail
  refine (S4.out _).mono ?_
  rintro e wN ⟨rfl, b2⟩
  replace hS := Lib.hid (hS.out.below b2)
  clear b2 c0 c1
  obtain ⟨_, c0, c1, _⟩ := hS.out.b2
  go_wp2_with fail
  refine (S16.out _).mono ?_
  rintro e wN ⟨rfl, b2⟩
  replace hS := Lib.hid (hS.out.below b2)
  clear b2 c0 c1
  obtain ⟨_, c0, c1, _⟩ := hS.out.b2
  go_wp2_with fail
  refine (SN.out _).mono ?_
  rintro e w9 ⟨rfl, rfl⟩
  go_wp2_with fail
  have hA := Lib.hid (hS.out.alloc #[.int .i64 3, .int .i64 7, .int .i64 100, .int .i64 0] 29)
  obtain ⟨V, hV⟩ : ∃ V, V = wN.heap.size := ⟨_, rfl⟩
  rw [← hV] at hA
  replace hV := Lib.hid hV
  have hRN : ∀ W, Sep W [blk V 29 #[.int .i64 3, .int .i64 7, .int .i64 100, .int .i64 0], blk w2.heap.size 29 #[Value.int .i64 (3), Value.int .i64 (7)], old w] → RN W (.slice (some ⟨V, 0, none⟩) 2 2) [(3, 7), (100, 0)] := fun W h => by
    obtain ⟨z, a0, a1, a2, a3, _⟩ := h.b4
    refine ⟨_, 2, rfl, fun _ => ⟨V, 0, rfl, z, fun j hj => ?_⟩⟩
    have : j = 0 ∨ j = 1 := by simp at hj; omega
    rcases this with rfl | rfl
    · exact ⟨a0, a1⟩
    · exact ⟨a2, a3⟩
  have SP := Lib.hid (spread_any _ [(3, 7), (100, 0)] 1 (by omega) (by omega) _ (hRN _ hA.out) (by simp))
  rw [cnt_one, show ((1 : Nat) : Int) = 1 from rfl] at SP
  replace hRN := Lib.hid hRN
  clear hS c0 c1
  go_wp2_with fail
  rw [← hV.out]
  refine SP.out.mono ?_
  rintro e w10 ⟨g, rfl, hG⟩
  have hT := Lib.hid (hG.graft hA.out)
  clear hG hA SP hRN
  have hT2 := Lib.hid (hT.out.alloc #[.int .i64 1] 3)
  have hR1 : RI (w10.alloc (.cells #[.int .i64 1] 3)) (.slice (some ⟨g, 0, none⟩) 1 1) [1] := vi_ri hT2.out.tail
  have hR2 : RI (w10.alloc (.cells #[.int .i64 1] 3)) (.slice (some ⟨w10.heap.size, 0, none⟩) 1 1) [1] := by
    obtain ⟨z, a0, _⟩ := hT2.out.b1
    refine ⟨_, 1, rfl, fun _ => ⟨w10.heap.size, 0, rfl, z, fun j hj => ?_⟩⟩
    obtain rfl : j = 0 := by simp at hj; omega
    exact a0
  have SM := Lib.hid (same_true _ _ [1] _ (by simp) hR1 hR2)
  clear hR1 hR2
  go_wp2_with fail
  refine SM.out.mono ?_
  rintro e w11 ⟨rfl, m, rfl⟩
  go_wp2_with fail
  go_ret
  exact ⟨rfl, below_drewN hT2.out.tail.tail.tail.tail.gold _⟩
end Go.Proofs.YtgbffkjfjkfiaaaDoor
