/-
  TicksParts, walked. No condition beside arguments that came in.
-/
import Derived.Test.YtcbjgibcgalppaaTkX
import Derived.Test.YtcbjgibcgalppaaTkI
import Derived.Test.YtcbjgibcgalppaaTkP
import Derived.Test.YtcbjgibcgalppaaOpen
import Derived.Test.YtcbjgibcgalppaaPick
import Derived.IntWalk
namespace Go.Proofs.Ytcbjgibcgalppaa
open Go.RowKit Go.Shelf
theorem u16_ok {z : Int} (h : (Lit.int .u16 z).wf = true) : 0 ≤ z ∧ z ≤ 65535 := by
  simp [Lit.wf, IntKind.min, IntKind.max, IntKind.bits, IntKind.signed] at h
  omega
theorem dueN_add (s t : Int) (hst : s ≤ t) : ∀ L : List Tm, dueN t L = dueN s L + dueN t (L.drop (dueN s L))
  | [] => by simp [dueN]
  | x :: L => by
    have ih := dueN_add s t hst L
    unfold dueN at *
    by_cases h : x.1 ≤ s
    · have h2 : x.1 ≤ t := by omega
      rw [List.takeWhile_cons, List.takeWhile_cons, if_pos (show decide (x.1 ≤ t) = true by simpa using h2), if_pos (show decide (x.1 ≤ s) = true by simpa using h)]
      simp only [List.length_cons, List.drop_succ_cons]
      omega
    · rw [show (x :: L).takeWhile (fun u : Tm => decide (u.1 ≤ s)) = [] by rw [List.takeWhile_cons, if_neg (by simpa using h)]]
      simp
theorem tms_one (L : List Tm) : ∀ u ∈ L.flatMap tC, u.oneCell' = true := by
  intro u hu
  obtain ⟨x, _, hx⟩ := List.mem_flatMap.1 hu
  simp [tC] at hx
  rcases hx with rfl | rfl | rfl <;> rfl
theorem old_at {w w1 wr : World} {rs : List Res} (b1 : Below w.heap.size w w1) (h : Sep wr (old w1 :: rs)) (b o : Nat) (hb : b < w.heap.size) : wr.cell? ⟨b, o, none⟩ = w.cell? ⟨b, o, none⟩ :=
  ((b1.trans (h.gold.mono b1.size)).cell (p := ⟨b, o, none⟩) hb)
set_option maxRecDepth 100000 in
set_option maxHeartbeats 4000000 in
theorem parts_walk (a0 : Option Addr) (n0 c0 : Nat) (z0 : List Int) (nn mm : Int) (w : World) (h0 : IsInts .u16 w a0 n0 c0 z0) :
    Calls Try.prog 5 #[.slice a0 n0 c0, .int .i64 nn, .int .i64 mm] w fun e w' => e = .returned (.bool true) ∧ Below w.heap.size w w' := by
  by_cases hbig : 30 < n0
  · have HL := Lib.hid (lives_any w)
    have i0 : (30 : Int) < (n0 : Int) := by omega
    clear h0
    go_enter Try.func5, Try.ntmps5
    go_wp2_with fail
    refine HL.out.mono ?_
    rintro e w1 ⟨rfl, b1⟩
    replace b1 := Lib.hid b1
    go_wp2_with fail
    go_ret
    exact ⟨rfl, b1.out⟩
  have i0 : ¬ (30 : Int) < (n0 : Int) := by omega
  obtain ⟨ii, hi, hz0, hz1, hz2⟩ := info_parts info_at
  obtain ⟨n, hn⟩ := pick_nat nn 500 (by omega) (by omega)
  obtain ⟨m, hm⟩ := pick_nat mm 500 (by omega) (by omega)
  have n5 := hn.lt
  have m5 := hm.lt
  have HN := hn.quiet
  have HM := hm.quiet
  clear hn hm
  replace h0 := Lib.hid h0
  have HW := Lib.hid new_any
  go_enter Try.func5, Try.ntmps5
  go_wp2_with fail
  refine (lives_any w).mono ?_
  rintro e w1 ⟨rfl, b1⟩
  replace b1 := Lib.hid b1
  go_wp2_with fail
  refine (HN.out _).mono ?_
  rintro e w2 ⟨rfl, hw2⟩
  subst hw2
  go_wp2_with fail
  refine (HM.out _).mono ?_
  rintro e w3 ⟨rfl, hw3⟩
  subst hw3
  go_wp2_with fail
  refine (HW.out _).mono ?_
  rintro e w4 ⟨p, rfl, hS⟩
  replace hS := Lib.hid hS
  go_wp2_with fail
  refine (HW.out _).mono ?_
  rintro e w5 ⟨q, rfl, hS5⟩
  have hS5 := Lib.hid ((hS5.graft hS.out).to1)
  clear hS HW HN HM
  go_wp2_with fail
  go_loopw [9] (fun s wr => ∃ (k : Nat) (L : List Tm), k ≤ n0 ∧ s = .int .i64 k ∧ Hid (∀ x ∈ L, x.2.2 < k) ∧ Hid (L.length = k) ∧ Hid (Sep wr [clockR p 0 L, clockR q 0 L, old w3])) (fun s _ => n0 - (intOf s).toNat)
  case atStart => exact ⟨0, [], Nat.zero_le _, rfl, Lib.hid (fun x hx => absurd hx (by simp)), rfl, hS5⟩
  case round =>
    clear hS5
    obtain ⟨k, L, hk, rfl, hM, hL, hS⟩ := hrel
    by_cases hlt : k < n0
    · obtain ⟨_, _, _, hc⟩ := h0.out
      obtain ⟨b, off, rfl, hb, hc⟩ := hc (by omega)
      obtain ⟨z, hzf⟩ := hc k hlt
      rw [← old_at b1.out (hS.out.bring 2 rfl) _ _ hb] at z
      obtain ⟨y0, y1⟩ := u16_ok hzf
      clear hc hzf
      generalize z0.getD k 0 = y at *
      have cv : IntKind.i64.wrap y = y := IntWalk.i64_in _ (by omega)
      obtain ⟨t, ht⟩ : ∃ t, 1 + y % 1000 = t := ⟨_, rfl⟩
      have ht1 : 1 ≤ t ∧ t ≤ 1000 := by omega
      have j1 : (0 : Int) ≤ (k : Int) := by omega
      have j2 : (k : Int) < (n0 : Int) := by omega
      have HK := Lib.hid (show ∀ who, L.any (keyB who (k : Int)) = false from fun who => by
        rw [List.any_eq_false]
        intro x hx e
        have := hM.out x hx
        unfold keyB at e
        simp at e
        omega)
      have HA := Lib.hid (fun who => set_new p 0 L t who k wr _ hS.out (by omega) (HK.out who) (by rw [hL.out]; omega))
      have HB := Lib.hid (fun who M W (h : Sep W [clockR q 0 L, clockR p 0 M, old w3]) => set_new q 0 L t who k W _ h (by omega) (HK.out who) (by rw [hL.out]; omega))
      have hM2 := Lib.hid (show ∀ who, ∀ x ∈ insT (t, who, (k : Int)) L, x.2.2 < ((k + 1 : Nat) : Int) from fun who x hx => by
        rcases List.mem_cons.1 ((insT_perm _ L).mem_iff.1 hx) with rfl | h
        · simp only; omega
        · have := hM.out x h; omega)
      have hL2 := Lib.hid (show ∀ who, (insT (t, who, (k : Int)) L).length = k + 1 from fun who => by rw [(insT_perm _ _).length_eq, List.length_cons, hL.out])
      clear hM hL hS hz0 hz1 hz2 HK
      replace ht1 := Lib.hid ht1
      go_wp2_with fail
      refine (HA.out _).mono ?_
      rintro e w6 ⟨rfl, hS⟩
      replace hS := Lib.hid hS.to1
      clear HA
      go_wp2_with fail
      refine (HB.out _ _ _ hS.out).mono ?_
      rintro e w7 ⟨rfl, hS7⟩
      replace hS7 := Lib.hid hS7.to1
      clear HB hS
      go_wp2_with fail
      go_roundw
      case rel => exact ⟨k + 1, _, by omega, by go_num, Lib.hid (hM2.out _), Lib.hid (hL2.out _), hS7⟩
      case measure => simp [intOf]; omega
    · obtain rfl : k = n0 := by omega
      have la : later 0 (n : Int) = (n : Int) := by unfold later; omega
      have lb : later (n : Int) (m : Int) = ((n : Int) + (m : Int)) := by unfold later; omega
      have lc : later 0 ((n : Int) + (m : Int)) = ((n : Int) + (m : Int)) := by unfold later; omega
      have hd := dueN_add (n : Int) ((n : Int) + (m : Int)) (by omega) L
      have d1 := dueN_le (n : Int) L
      have d2 := dueN_le ((n : Int) + (m : Int)) (L.drop (dueN (n : Int) L))
      rw [List.length_drop] at d2
      have H1 := pass_ok p 0 (n : Int) L wr _ hS.out (by have := hL.out; omega) (by omega) (by omega) (by omega) (by omega)
      rw [la] at H1
      have H2 := fun W rs (h : Sep W (clockR p (n : Int) (L.drop (dueN (n : Int) L)) :: rs)) => pass_ok p (n : Int) (m : Int) _ W rs h (by have := hL.out; rw [List.length_drop]; omega) (by omega) (by omega) (by omega) (by omega)
      rw [lb] at H2
      have H3 := fun W rs (h : Sep W (clockR q 0 L :: rs)) => pass_ok q 0 ((n : Int) + (m : Int)) L W rs h (by have := hL.out; omega) (by omega) (by omega) (by omega) (by omega)
      rw [lc, hd] at H3
      rw [List.drop_drop] at H2
      generalize dueN (n : Int) L = m1 at *
      generalize dueN ((n : Int) + (m : Int)) (L.drop m1) = m2 at *
      have hlen1 := Lib.hid (show (L.drop (m1 + m2)).length = k - (m1 + m2) by rw [List.length_drop, hL.out])
      have htk := Lib.hid (show (L.take m1).flatMap tC ++ ((L.drop m1).take m2).flatMap tC = (L.take (m1 + m2)).flatMap tC by rw [← List.flatMap_append, List.take_add])
      have hle := Lib.hid (show m1 + m2 ≤ k by have := hL.out; omega)
      have hlt1 := Lib.hid (show (L.take (m1 + m2)).length = m1 + m2 by rw [List.length_take]; have := hL.out; omega)
      clear hd d1 d2 la lb lc hM hS
      replace H1 := Lib.hid H1
      replace H2 := Lib.hid H2
      replace H3 := Lib.hid H3
      go_wp2_with fail
      refine H1.out.mono ?_
      rintro e w6 ⟨xa, xc, rfl, hS⟩
      replace hS := Lib.hid hS
      clear H1
      go_wp2_with fail
      refine (H2.out _ _ hS.out.to1).mono ?_
      rintro e w7 ⟨ya, yc, rfl, hS7⟩
      replace hS := Lib.hid (hS7.bring 3 rfl)
      clear H2 hS7
      go_wp2_with fail
      refine (H3.out _ _ hS.out).mono ?_
      rintro e w8 ⟨za, zc, rfl, hS8⟩
      replace hS := Lib.hid hS8
      clear H3 hS8
      have T1 := Lib.hid (fun W rs h => timers_any p 40 ((n : Int) + (m : Int)) (L.drop (m1 + m2)) W rs h (by rw [hlen1.out]; omega) (by omega))
      have T2 := Lib.hid (fun W rs h => timers_any q 40 ((n : Int) + (m : Int)) (L.drop (m1 + m2)) W rs h (by rw [hlen1.out]; omega) (by omega))
      rw [hlen1.out] at T1 T2
      go_wp2_with fail
      refine (T1.out _ _ (hS.out.bring 3 rfl)).mono ?_
      rintro e w9 ⟨pa, pc, rfl, hS9⟩
      replace hS := Lib.hid (hS9.bring 3 rfl)
      clear T1 hS9
      go_wp2_with fail
      refine (T2.out _ _ hS.out).mono ?_
      rintro e w10 ⟨qa, qc, rfl, hS10⟩
      have hX := Lib.hid (hS10.bring 6 rfl)
      have hY := Lib.hid (hS10.bring 5 rfl).vec_rl.srcA
      clear T2 hS hS10
      have one := Lib.hid (tms_one ((L.drop m1).take m2))
      have HP := Lib.hid (fun W rs (h : Sep W (clockR p ((n : Int) + (m : Int)) (L.drop (m1 + m2)) :: rs)) => now_any p _ _ W rs h)
      have HQ := Lib.hid (fun W rs (h : Sep W (clockR q ((n : Int) + (m : Int)) (L.drop (m1 + m2)) :: rs)) => now_any q _ _ W rs h)
      have HE := Lib.hid (fun W rs (h : Sep W (clockR p ((n : Int) + (m : Int)) (L.drop (m1 + m2)) :: rs)) => clen_any p _ _ W rs h)
      rw [hlen1.out, show ((k - (m1 + m2) : Nat) : Int) = (k : Int) - ((m1 : Int) + (m2 : Int)) by have := hle.out; omega] at HE
      have cs := IntWalk.i64_in ((k : Int) - ((m1 : Int) + (m2 : Int))) (by have := hle.out; omega)
      go_wp2_with (at_builtin; refine wpList_append_sep hX.out rfl _ _ 36 rfl ii (.agg #[.int .i64 0, .int .i64 0, .int .i64 0]) 24 Try.underlying36 hi hz0 hz1 hz2 rfl (by decide) rfl m2 _ hY.out one.out ?c3 ?c4 ?_)
      case c3 => have := hle.out; simp only [maxLen]; omega
      case c4 => have := hle.out; omega
      intro a' c' w11 hS11
      rw [htk.out] at hS11
      have Q1 := Lib.hid (same_tm (.slice a' (m1 + m2) c') (.slice za (m1 + m2) zc) (L.take (m1 + m2)) (L.take (m1 + m2)) w11 (by rw [hlt1.out]; have := hle.out; omega) (by rw [hlt1.out]; exact hS11.vec_rl) (by rw [hlt1.out]; exact (hS11.bring 5 rfl).vec_rl))
      rw [decide_eq_true rfl] at Q1
      replace hS11 := Lib.hid hS11
      clear hX hY
      go_wp2_with fail
      refine Q1.out.mono ?_
      rintro e w12 ⟨rfl, b12⟩
      have hS12 := hS11.out.below b12
      have Q2 := Lib.hid (same_tm (.slice pa (k - (m1 + m2)) pc) (.slice qa (k - (m1 + m2)) qc) (L.drop (m1 + m2)) (L.drop (m1 + m2)) w12 (by rw [hlen1.out]; omega) (by rw [hlen1.out]; exact (hS12.bring 3 rfl).vec_rl) (by rw [hlen1.out]; exact (hS12.bring 1 rfl).vec_rl))
      rw [decide_eq_true rfl] at Q2
      replace hS12 := Lib.hid hS12
      clear Q1 b12 hS11
      go_wp2_with fail
      refine Q2.out.mono ?_
      rintro e w13 ⟨rfl, b13⟩
      have hS13 := Lib.hid (hS12.out.below b13)
      clear Q2 b13 hS12
      go_wp2_with fail
      refine (HP.out _ _ (hS13.out.bring 4 rfl)).mono ?_
      rintro e w14 ⟨rfl, hw14⟩
      subst hw14
      go_wp2_with fail
      refine (HQ.out _ _ (hS13.out.bring 2 rfl)).mono ?_
      rintro e w15 ⟨rfl, hw15⟩
      subst hw15
      go_wp2_with fail
      refine (HE.out _ _ (hS13.out.bring 4 rfl)).mono ?_
      rintro e w16 ⟨rfl, hw16⟩
      subst hw16
      go_wp2_with fail
      go_ret
      exact ⟨rfl, b1.out.trans ((hS13.out.bring 7 rfl).gold.mono b1.out.size)⟩
end Go.Proofs.Ytcbjgibcgalppaa
