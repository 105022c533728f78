/-
  TicksScript, walked. No condition beside arguments that came in.
-/
import Derived.Test.YtcbjgibcgalppaaTkC
import Derived.Test.YtcbjgibcgalppaaOpen
namespace Go.Proofs.Ytcbjgibcgalppaa
open Go.RowKit Go.Shelf
set_option maxRecDepth 100000 in
set_option maxHeartbeats 4000000 in
theorem tscript_walk (a : Option Addr) (n c : Nat) (z : Nat → Nat → Int) (w : World) (hz : IsRows 5 w a n c z) : Calls Try.prog 6 #[.slice a n c] w fun e w' => e = .returned (.bool true) ∧ Below w.heap.size w w' := by
  by_cases hbig : 60 < n
  · have i0 : (60 : Int) < (n : Int) := by omega
    clear hz
    go_enter Try.func6, Try.ntmps6
    go_wp2_with fail
    refine (lives_any w).mono ?_
    rintro e w1 ⟨rfl, b1⟩
    replace b1 := Lib.hid b1
    go_wp2_with fail
    go_ret
    exact ⟨rfl, b1.out⟩
  have i0 : ¬ (60 : Int) < (n : Int) := by omega
  replace hz := Lib.hid hz
  have HC := Lib.hid new_any
  have HR := Lib.hid rnew_any
  go_enter Try.func6, Try.ntmps6
  go_wp2_with fail
  refine (lives_any w).mono ?_
  rintro e w1 ⟨rfl, b1⟩
  replace b1 := Lib.hid b1
  go_wp2_with fail
  refine (HC.out _).mono ?_
  rintro e w4 ⟨p, rfl, hS⟩
  replace hS := Lib.hid hS
  go_wp2_with fail
  refine (HR.out _).mono ?_
  rintro e w5 ⟨o, rfl, hS5⟩
  have hS5 := Lib.hid ((hS5.graft hS.out).to1)
  clear hS HC HR
  go_wp2_with fail
  go_loopw [5] (fun s wr => ∃ (k : Nat) (T : Int) (L : List Tm), k ≤ n ∧ s = .int .i64 k ∧ Hid (L.length ≤ k) ∧ Hid (0 ≤ T ∧ T ≤ 9223372036854775807) ∧ Hid (Sep wr [clockR p T L, refR o T L, old w1])) (fun s _ => n - (intOf s).toNat)
  case atStart => exact ⟨0, 0, [], Nat.zero_le _, rfl, Lib.hid (by simp), Lib.hid ⟨by omega, by omega⟩, hS5⟩
  case round =>
    clear hS5
    obtain ⟨k, T, L, hk, rfl, hL, hT, hS⟩ := hrel
    by_cases hlt : k < n
    · obtain ⟨_, _, hc⟩ := hz.out
      obtain ⟨b, off, rfl, hb, hc⟩ := hc (by omega)
      have rd := fun o_ => old_at b1.out (hS.out.bring 2 rfl) b o_ hb
      have z0 := (rd _).trans (hc k hlt 0 (by omega)).1
      have z1 := (rd _).trans (hc k hlt 1 (by omega)).1
      have z2 := (rd _).trans (hc k hlt 2 (by omega)).1
      have z3 := (rd _).trans (hc k hlt 3 (by omega)).1
      have z4 := (rd _).trans (hc k hlt 4 (by omega)).1
      simp only [Nat.add_zero] at z0
      clear hc rd
      generalize z k 0 = kd at *
      generalize z k 1 = xa at *
      generalize z k 2 = xw at *
      generalize z k 3 = xm at *
      generalize z k 4 = xn at *
      obtain ⟨kq, hP⟩ := pick_nat kd 4 (by omega) (by omega)
      have hk4 := hP.lt
      have HP := hP.quiet
      clear hP
      have j1 : (0 : Int) ≤ (k : Int) := by omega
      have j2 : (k : Int) < (n : Int) := by omega
      have hB := Lib.hid ((hS.out.alloc #[.int .i64 kd, .int .i64 xa, .int .i64 xw, .int .i64 xm, .int .i64 xn] 52).bring 2 rfl |>.bring 2 rfl)
      go_wp2_with fail
      clear z0 z1 z2 z3 z4
      generalize wr.heap.size = X at hB ⊢
      generalize wr.alloc _ = W0 at hB ⊢
      clear hS
      rename_i K4 aK4 K3 aK3 K2 aK2 K1 aK1 K0 aK0
      have htail : Hid (∀ (x8 x9 x10 x11 x37 x38 x39 x40 x41 x42 x43 x44 x45 x46 x47 x48 x49 x50 x51 x52 x53 x54 x55 x56 x57 x58 x59 x60 x61 x62 x63 x64 x65 x66 x67 x68 x69 x70 x71 x72 x73 x74 x75 x76 x77 x78 x79 x80 x81 x82 x83 x84 x85 x86 x87 x88 x89 x90 x91 x92 x93 x94 x95 : Value) (T2 : Int) (L2 : List Tm) (W : World), Hid (L2.length ≤ k + 1) → Hid (0 ≤ T2 ∧ T2 ≤ 9223372036854775807) → Hid (Sep W [clockR p T2 L2, refR o T2 L2, old w1]) → K2 { tmps := #[Value.slice (some ⟨b, off, none⟩) n c, undef, u2, Value.pointer (some ⟨p, 0, none⟩), Value.pointer (some ⟨o, 0, none⟩), Value.int .i64 (k : Int), Value.pointer (some ⟨X, 0, none⟩), Value.bool true, x8, x9, x10, x11, u12, u13, u14, u15, u16, u17, Value.bool true, Value.bool false, Value.slice (some ⟨b, off, none⟩) n c, Value.int .i64 (n : Int), Value.bool (decide ((60 : Int) < (n : Int))), Value.pointer (some ⟨p, 0, none⟩), Value.pointer (some ⟨o, 0, none⟩), Value.int .i64 (k : Int), Value.slice (some ⟨b, off, none⟩) n c, Value.int .i64 (n : Int), Value.bool true, u29, u30, Value.slice (some ⟨b, off, none⟩) n c, Value.int .i64 (k : Int), Value.pointer (some ⟨b, off + k * 5, none⟩), Value.agg #[.int .i64 kd, .int .i64 xa, .int .i64 xw, .int .i64 xm, .int .i64 xn], Value.pointer (some ⟨X, 0, none⟩), Value.int .i64 (kd : Int), x37, x38, x39, x40, x41, x42, x43, x44, x45, x46, x47, x48, x49, x50, x51, x52, x53, x54, x55, x56, x57, x58, x59, x60, x61, x62, x63, x64, x65, x66, x67, x68, x69, x70, x71, x72, x73, x74, x75, x76, x77, x78, x79, x80, x81, x82, x83, x84, x85, x86, x87, x88, x89, x90, x91, x92, x93, x94, x95, u96, u97, u98, u99, u100, u101, u102, u103, u104, u105, u106, u107, u108, u109, u110, u111, u112, u113, u114, u115, u116, u117, u118, u119, u120, u121, u122, u123, u124, u125, u126, u127, u128, u129, u130, u131, u132, u133, u134, u135, u136, u137, u138, u139, u140, u141, u142, u143, u144, u145, u146, u147], defers := [] } W) := by
        refine Lib.hid ?_
        intro x8 x9 x10 x11 x37 x38 x39 x40 x41 x42 x43 x44 x45 x46 x47 x48 x49 x50 x51 x52 x53 x54 x55 x56 x57 x58 x59 x60 x61 x62 x63 x64 x65 x66 x67 x68 x69 x70 x71 x72 x73 x74 x75 x76 x77 x78 x79 x80 x81 x82 x83 x84 x85 x86 x87 x88 x89 x90 x91 x92 x93 x94 x95 T2 L2 W hL2 hT2 hS
        replace aK2 := aK2
        refine aK2 _ _ ?_
        clear aK2
        have h70 : L2.length ≤ 70 := by have := hL2.out; omega
        have HN1 := Lib.hid (cnext_any p T2 L2 W _ hS.out)
        have HN2 := Lib.hid (fun V rs h => rnext_any o T2 L2 V rs h)
        have HT := Lib.hid (fun V rs h => timers_any p 70 T2 L2 V rs h h70 (by omega))
        have HA1 := Lib.hid (fun V rs h => now_any p T2 L2 V rs h)
        have HA2 := Lib.hid (fun V rs h => rnow_any o T2 L2 V rs h)
        have HB1 := Lib.hid (fun V rs h => clen_any p T2 L2 V rs h)
        have HB2 := Lib.hid (fun V rs h => rlen_any o T2 L2 V rs h)
        have HE := Lib.hid (fun V rs h => reach_any o T2 L2 V rs h (by omega))
        generalize nxB L2 = nb at *
        generalize nxT L2 = nx at *
        obtain ⟨y0, y1, y2⟩ := nx
        simp only [tV] at HN1 HN2
        have hq := fun V => run_neq_tim y0 y0 y1 y1 y2 y2 V
        rw [show eqB_tim y0 y0 y1 y1 y2 y2 = true by rw [eqB_tim_iff]; simp] at hq
        go_wp2_with fail
        refine HN1.out.mono ?_
        rintro e w6 ⟨rfl, b6⟩
        have hS6 := Lib.hid (((hS.out.below b6).alloc #[.int .i64 y0, .int .i64 y1, .int .i64 y2] 34).bring 2 rfl)
        clear HN1 b6 hS
        go_wp2_with fail
        refine (HN2.out _ _ hS6.out).mono ?_
        rintro e w7 ⟨rfl, b7⟩
        have hS7 := Lib.hid (((hS6.out.below b7).alloc #[.int .i64 y0, .int .i64 y1, .int .i64 y2] 34).bring 3 rfl)
        clear HN2 b7 hS6
        generalize w6.heap.size = B1 at hS7 ⊢
        go_wp2_with fail
        refine (HT.out _ _ hS7.out).mono ?_
        rintro e w8 ⟨ta, tc, rfl, hS8⟩
        replace hS8 := Lib.hid hS8
        clear HT hS7
        generalize w7.heap.size = B2 at hS8 ⊢
        obtain ⟨_, e0, e1, e2, _⟩ := (hS8.out.bring 2 rfl).b3
        obtain ⟨_, f0, f1, f2, _⟩ := (hS8.out.bring 4 rfl).b3
        go_wp2_with fail
        refine (HA1.out _ _ (hS8.out.bring 1 rfl)).mono ?_
        rintro e w9 ⟨rfl, hw9⟩
        subst hw9
        go_wp2_with fail
        refine (HA2.out _ _ (hS8.out.bring 3 rfl)).mono ?_
        rintro e w9 ⟨rfl, hw9⟩
        subst hw9
        go_wp2_with fail
        refine (HB1.out _ _ (hS8.out.bring 1 rfl)).mono ?_
        rintro e w9 ⟨rfl, hw9⟩
        subst hw9
        go_wp2_with fail
        refine (HB2.out _ _ (hS8.out.bring 3 rfl)).mono ?_
        rintro e w9 ⟨rfl, hw9⟩
        subst hw9
        go_wp2_with fail
        refine (HE.out _ _ (hS8.out.bring 3 rfl)).mono ?_
        rintro e w10 ⟨ra, rc, rfl, hS10⟩
        have Q1 := Lib.hid (same_tm (.slice ta L2.length tc) (.slice ra L2.length rc) L2 L2 w10 (by omega) (hS10.bring 2 rfl).vec_rl hS10.vec_rl)
        rw [decide_eq_true rfl] at Q1
        replace hS10 := Lib.hid hS10
        clear e0 e1 e2 f0 f1 f2 hS8 HE HA1 HA2 HB1 HB2
        go_wp2_with fail
        refine Q1.out.mono ?_
        rintro e w11 ⟨rfl, b11⟩
        have hS11 := hS10.out.below b11
        have hS12 := Lib.hid (show Sep w11 [clockR p T2 L2, refR o T2 L2, old w1] from ((((hS11.tail.bring 1 rfl).tail.bring 2 rfl).tail.bring 2 rfl).tail.to1))
        clear Q1 b11 hS11 hS10
        go_wp2_with fail
        go_roundw
        case rel => exact ⟨k + 1, T2, L2, by omega, by go_num, hL2, hT2, hS12⟩
        case measure => simp [intOf]; omega
      replace aK2 := Lib.hid aK2
      refine (HP.out _).mono ?_
      rintro e w6 ⟨rfl, hw6⟩
      subst hw6
      clear HP
      have hk5 : kq = 0 ∨ kq = 1 ∨ kq = 2 ∨ kq = 3 := by omega
      rcases hk5 with rfl | rfl | rfl | rfl
      · go_wp2_with fail
        replace hB := Lib.hid hB.out.drew
        have hS := Lib.hid (show (fun V : World => ∃ L1 L2, Sep V [clockR p T L1, refR o T L2, blk X 52 #[.int .i64 kd, .int .i64 xa, .int .i64 xw, .int .i64 xm, .int .i64 xn], old w1]) _ from ⟨_, _, hB.out⟩)
        refine hl_begin (fun V : World => ∃ L1 L2, Sep V [clockR p T L1, refR o T L2, blk X 52 #[.int .i64 kd, .int .i64 xa, .int .i64 xw, .int .i64 xm, .int .i64 xn], old w1]) [(0, true), (1, true), (2, true), (3, true), (4, true), (5, true), (6, true), (8, true), (9, true), (10, true), (11, true), (12, true), (13, true), (14, true), (7, false), (15, false), (16, true), (17, true)] (by kernel_rfl) (by kernel_rfl) (by kernel_rfl) rfl (fun _ _ _ _ _ h => h) hS.out ?_
        change HL _ _ _ _ _ _ (World.drew _)
        generalize World.drew _ = wd at *
        refine hl_take ?v1 rfl (by kernel_rfl) ?y1 ?z1
        case y1 => intro W hW; skip; replace hW := Lib.hid hW; go_simp; try rfl
        case z1 =>
        simp only [Act.put, List.setIfInBounds_toArray, List.set_cons_succ, List.set_cons_zero, List.getElem_toArray, List.getElem_cons_zero]
        refine hl_take ?v2 rfl (by kernel_rfl) ?y2 ?z2
        case y2 => intro W hW; skip; replace hW := Lib.hid hW; go_simp; try rfl
        case z2 =>
        simp only [Act.put, List.setIfInBounds_toArray, List.set_cons_succ, List.set_cons_zero, List.getElem_toArray, List.getElem_cons_zero, List.getElem_cons_succ]
        refine hl_take ?v3 rfl (by kernel_rfl) ?y3 ?z3
        case y3 => intro W hW; obtain ⟨_, _, hW⟩ := hW; obtain ⟨_, e0, e1, e2, e3, e4, _⟩ := (hW.bring 2 rfl).b5; replace hW := Lib.hid hW; go_simp; try rfl
        case z3 =>
        simp only [Act.put, List.setIfInBounds_toArray, List.set_cons_succ, List.set_cons_zero, List.getElem_toArray, List.getElem_cons_zero, List.getElem_cons_succ]
        refine hl_take ?v4 rfl (by kernel_rfl) ?y4 ?z4
        case y4 => intro W hW; skip; replace hW := Lib.hid hW; go_simp; try rfl
        case z4 =>
        simp only [Act.put, List.setIfInBounds_toArray, List.set_cons_succ, List.set_cons_zero, List.getElem_toArray, List.getElem_cons_zero, List.getElem_cons_succ]
        refine hl_take ?v5 rfl (by kernel_rfl) ?y5 ?z5
        case y5 => intro W hW; obtain ⟨_, _, hW⟩ := hW; obtain ⟨_, e0, e1, e2, e3, e4, _⟩ := (hW.bring 2 rfl).b5; replace hW := Lib.hid hW; go_simp; try rfl
        case z5 =>
        simp only [Act.put, List.setIfInBounds_toArray, List.set_cons_succ, List.set_cons_zero, List.getElem_toArray, List.getElem_cons_zero, List.getElem_cons_succ]
        refine hl_take ?v6 rfl (by kernel_rfl) ?y6 ?z6
        case y6 => intro W hW; skip; replace hW := Lib.hid hW; go_simp; try rfl
        case z6 =>
        simp only [Act.put, List.setIfInBounds_toArray, List.set_cons_succ, List.set_cons_zero, List.getElem_toArray, List.getElem_cons_zero, List.getElem_cons_succ]
        refine hl_take ?v7 rfl (by kernel_rfl) ?y7 ?z7
        case y7 => intro W hW; obtain ⟨_, _, hW⟩ := hW; obtain ⟨_, e0, e1, e2, e3, e4, _⟩ := (hW.bring 2 rfl).b5; replace hW := Lib.hid hW; go_simp; try rfl
        case z7 =>
        simp only [Act.put, List.setIfInBounds_toArray, List.set_cons_succ, List.set_cons_zero, List.getElem_toArray, List.getElem_cons_zero, List.getElem_cons_succ]
        refine hl_take ?v8 rfl (by kernel_rfl) ?y8 ?z8
        case y8 => intro W hW; skip; replace hW := Lib.hid hW; go_simp; try rfl
        case z8 =>
        simp only [Act.put, List.setIfInBounds_toArray, List.set_cons_succ, List.set_cons_zero, List.getElem_toArray, List.getElem_cons_zero, List.getElem_cons_succ]
        refine hl_take ?v9 rfl (by kernel_rfl) ?y9 ?z9
        case y9 => intro W hW; skip; replace hW := Lib.hid hW; go_simp; try rfl
        case z9 =>
        simp only [Act.put, List.setIfInBounds_toArray, List.set_cons_succ, List.set_cons_zero, List.getElem_toArray, List.getElem_cons_zero, List.getElem_cons_succ]
        refine hl_take ?v10 rfl (by kernel_rfl) ?y10 ?z10
        case y10 => intro W hW; obtain ⟨_, _, hW⟩ := hW; obtain ⟨_, e0, e1, e2, e3, e4, _⟩ := (hW.bring 2 rfl).b5; replace hW := Lib.hid hW; go_simp; try rfl
        case z10 =>
        simp only [Act.put, List.setIfInBounds_toArray, List.set_cons_succ, List.set_cons_zero, List.getElem_toArray, List.getElem_cons_zero, List.getElem_cons_succ]
        refine hl_take ?v11 rfl (by kernel_rfl) ?y11 ?z11
        case y11 => intro W hW; skip; replace hW := Lib.hid hW; go_simp; try rfl
        case z11 =>
        simp only [Act.put, List.setIfInBounds_toArray, List.set_cons_succ, List.set_cons_zero, List.getElem_toArray, List.getElem_cons_zero, List.getElem_cons_succ]
        refine hl_take ?v12 rfl (by kernel_rfl) ?y12 ?z12
        case y12 => intro W hW; obtain ⟨_, _, hW⟩ := hW; obtain ⟨_, e0, e1, e2, e3, e4, _⟩ := (hW.bring 2 rfl).b5; replace hW := Lib.hid hW; go_simp; try rfl
        case z12 =>
        simp only [Act.put, List.setIfInBounds_toArray, List.set_cons_succ, List.set_cons_zero, List.getElem_toArray, List.getElem_cons_zero, List.getElem_cons_succ]
        refine hl_take ?v13 rfl (by kernel_rfl) ?y13 ?z13
        case y13 => intro W hW; skip; replace hW := Lib.hid hW; go_simp; try rfl
        case z13 =>
        simp only [Act.put, List.setIfInBounds_toArray, List.set_cons_succ, List.set_cons_zero, List.getElem_toArray, List.getElem_cons_zero, List.getElem_cons_succ]
        refine hl_take ?v14 rfl (by kernel_rfl) ?y14 ?z14
        case y14 => intro W hW; obtain ⟨_, _, hW⟩ := hW; obtain ⟨_, e0, e1, e2, e3, e4, _⟩ := (hW.bring 2 rfl).b5; replace hW := Lib.hid hW; go_simp; try rfl
        case z14 =>
        simp only [Act.put, List.setIfInBounds_toArray, List.set_cons_succ, List.set_cons_zero, List.getElem_toArray, List.getElem_cons_zero, List.getElem_cons_succ]
        refine hl_one rfl (by kernel_rfl) (fun K hK => ?_)
        go_simp
        refine (cset_any p T L xa xw xm _ _ hB.out (by have := hL.out; omega)).mono ?_
        rintro e w6 ⟨rfl, q⟩
        replace hB := Lib.hid q
        clear q
        refine hK.out _ _ ⟨_, _, hB.out⟩ ?_
        clear hK K
        try simp only [Act.put, List.setIfInBounds_toArray, List.set_cons_succ, List.set_cons_zero, List.getElem_toArray, List.getElem_cons_zero, List.getElem_cons_succ]
        refine hl_one rfl (by kernel_rfl) (fun K hK => ?_)
        go_simp
        refine (rset_any o T L xa xw xm _ _ hB.out.to1 (by have := hL.out; omega)).mono ?_
        rintro e w7 ⟨rfl, q⟩
        replace hB := Lib.hid q.to1
        clear q
        refine hK.out _ _ ⟨_, _, hB.out⟩ ?_
        clear hK K
        try simp only [Act.put, List.setIfInBounds_toArray, List.set_cons_succ, List.set_cons_zero, List.getElem_toArray, List.getElem_cons_zero, List.getElem_cons_succ]
        refine hl_take ?v15 rfl (by kernel_rfl) ?y15 ?z15
        case y15 => intro W hW; skip; replace hW := Lib.hid hW; go_simp; try rfl
        case z15 =>
        simp only [Act.put, List.setIfInBounds_toArray, List.set_cons_succ, List.set_cons_zero, List.getElem_toArray, List.getElem_cons_zero, List.getElem_cons_succ]
        refine hl_take ?v16 rfl (by kernel_rfl) ?y16 ?z16
        case y16 => intro W hW; skip; replace hW := Lib.hid hW; go_simp; try rfl
        case z16 =>
        simp only [Act.put, List.setIfInBounds_toArray, List.set_cons_succ, List.set_cons_zero, List.getElem_toArray, List.getElem_cons_zero, List.getElem_cons_succ]
        refine hl_done ?_
        clear hS
        go_wp2_with fail
        exact htail.out _ _ _ _ _ _ _ _ _ _ _ _ _ _ _ _ _ _ _ _ _ _ _ _ _ _ _ _ _ _ _ _ _ _ _ _ _ _ _ _ _ _ _ _ _ _ _ _ _ _ _ _ _ _ _ _ _ _ _ _ _ _ _ _ _ _ (Lib.hid (Nat.le_trans (setX_len T (xa, xw, xm) L) (by have := hL.out; omega))) hT (Lib.hid (hB.out.bring 2 rfl).tail)
      · go_wp2_with fail
        replace hB := Lib.hid hB.out.drew
        have hS := Lib.hid (show (fun V : World => ∃ L1 L2, Sep V [clockR p T L1, refR o T L2, blk X 52 #[.int .i64 kd, .int .i64 xa, .int .i64 xw, .int .i64 xm, .int .i64 xn], old w1]) _ from ⟨_, _, hB.out⟩)
        refine hl_begin (fun V : World => ∃ L1 L2, Sep V [clockR p T L1, refR o T L2, blk X 52 #[.int .i64 kd, .int .i64 xa, .int .i64 xw, .int .i64 xm, .int .i64 xn], old w1]) [(0, true), (1, true), (2, true), (3, true), (4, true), (6, true), (7, true), (8, true), (9, true), (10, true), (5, false), (11, false), (12, true), (13, true)] (by kernel_rfl) (by kernel_rfl) (by kernel_rfl) rfl (fun _ _ _ _ _ h => h) hS.out ?_
        change HL _ _ _ _ _ _ (World.drew _)
        generalize World.drew _ = wd at *
        refine hl_take ?v17 rfl (by kernel_rfl) ?y17 ?z17
        case y17 => intro W hW; skip; replace hW := Lib.hid hW; go_simp; try rfl
        case z17 =>
        simp only [Act.put, List.setIfInBounds_toArray, List.set_cons_succ, List.set_cons_zero, List.getElem_toArray, List.getElem_cons_zero]
        refine hl_take ?v18 rfl (by kernel_rfl) ?y18 ?z18
        case y18 => intro W hW; skip; replace hW := Lib.hid hW; go_simp; try rfl
        case z18 =>
        simp only [Act.put, List.setIfInBounds_toArray, List.set_cons_succ, List.set_cons_zero, List.getElem_toArray, List.getElem_cons_zero, List.getElem_cons_succ]
        refine hl_take ?v19 rfl (by kernel_rfl) ?y19 ?z19
        case y19 => intro W hW; obtain ⟨_, _, hW⟩ := hW; obtain ⟨_, e0, e1, e2, e3, e4, _⟩ := (hW.bring 2 rfl).b5; replace hW := Lib.hid hW; go_simp; try rfl
        case z19 =>
        simp only [Act.put, List.setIfInBounds_toArray, List.set_cons_succ, List.set_cons_zero, List.getElem_toArray, List.getElem_cons_zero, List.getElem_cons_succ]
        refine hl_take ?v20 rfl (by kernel_rfl) ?y20 ?z20
        case y20 => intro W hW; skip; replace hW := Lib.hid hW; go_simp; try rfl
        case z20 =>
        simp only [Act.put, List.setIfInBounds_toArray, List.set_cons_succ, List.set_cons_zero, List.getElem_toArray, List.getElem_cons_zero, List.getElem_cons_succ]
        refine hl_take ?v21 rfl (by kernel_rfl) ?y21 ?z21
        case y21 => intro W hW; obtain ⟨_, _, hW⟩ := hW; obtain ⟨_, e0, e1, e2, e3, e4, _⟩ := (hW.bring 2 rfl).b5; replace hW := Lib.hid hW; go_simp; try rfl
        case z21 =>
        simp only [Act.put, List.setIfInBounds_toArray, List.set_cons_succ, List.set_cons_zero, List.getElem_toArray, List.getElem_cons_zero, List.getElem_cons_succ]
        refine hl_take ?v22 rfl (by kernel_rfl) ?y22 ?z22
        case y22 => intro W hW; skip; replace hW := Lib.hid hW; go_simp; try rfl
        case z22 =>
        simp only [Act.put, List.setIfInBounds_toArray, List.set_cons_succ, List.set_cons_zero, List.getElem_toArray, List.getElem_cons_zero, List.getElem_cons_succ]
        refine hl_take ?v23 rfl (by kernel_rfl) ?y23 ?z23
        case y23 => intro W hW; skip; replace hW := Lib.hid hW; go_simp; try rfl
        case z23 =>
        simp only [Act.put, List.setIfInBounds_toArray, List.set_cons_succ, List.set_cons_zero, List.getElem_toArray, List.getElem_cons_zero, List.getElem_cons_succ]
        refine hl_take ?v24 rfl (by kernel_rfl) ?y24 ?z24
        case y24 => intro W hW; obtain ⟨_, _, hW⟩ := hW; obtain ⟨_, e0, e1, e2, e3, e4, _⟩ := (hW.bring 2 rfl).b5; replace hW := Lib.hid hW; go_simp; try rfl
        case z24 =>
        simp only [Act.put, List.setIfInBounds_toArray, List.set_cons_succ, List.set_cons_zero, List.getElem_toArray, List.getElem_cons_zero, List.getElem_cons_succ]
        refine hl_take ?v25 rfl (by kernel_rfl) ?y25 ?z25
        case y25 => intro W hW; skip; replace hW := Lib.hid hW; go_simp; try rfl
        case z25 =>
        simp only [Act.put, List.setIfInBounds_toArray, List.set_cons_succ, List.set_cons_zero, List.getElem_toArray, List.getElem_cons_zero, List.getElem_cons_succ]
        refine hl_take ?v26 rfl (by kernel_rfl) ?y26 ?z26
        case y26 => intro W hW; obtain ⟨_, _, hW⟩ := hW; obtain ⟨_, e0, e1, e2, e3, e4, _⟩ := (hW.bring 2 rfl).b5; replace hW := Lib.hid hW; go_simp; try rfl
        case z26 =>
        simp only [Act.put, List.setIfInBounds_toArray, List.set_cons_succ, List.set_cons_zero, List.getElem_toArray, List.getElem_cons_zero, List.getElem_cons_succ]
        refine hl_one rfl (by kernel_rfl) (fun K hK => ?_)
        go_simp
        refine (cdrop_any p T L xw xm _ _ hB.out (by have := hL.out; omega)).mono ?_
        rintro e w6 ⟨rfl, q⟩
        replace hB := Lib.hid q
        clear q
        refine hK.out _ _ ⟨_, _, hB.out⟩ ?_
        clear hK K
        try simp only [Act.put, List.setIfInBounds_toArray, List.set_cons_succ, List.set_cons_zero, List.getElem_toArray, List.getElem_cons_zero, List.getElem_cons_succ]
        refine hl_one rfl (by kernel_rfl) (fun K hK => ?_)
        go_simp
        refine (rdrop_any o T L xw xm _ _ hB.out.to1 (by have := hL.out; omega)).mono ?_
        rintro e w7 ⟨rfl, q⟩
        replace hB := Lib.hid q.to1
        clear q
        refine hK.out _ _ ⟨_, _, hB.out⟩ ?_
        clear hK K
        try simp only [Act.put, List.setIfInBounds_toArray, List.set_cons_succ, List.set_cons_zero, List.getElem_toArray, List.getElem_cons_zero, List.getElem_cons_succ]
        refine hl_take ?v27 rfl (by kernel_rfl) ?y27 ?z27
        case y27 => intro W hW; skip; replace hW := Lib.hid hW; go_simp; try rfl
        case z27 =>
        simp only [Act.put, List.setIfInBounds_toArray, List.set_cons_succ, List.set_cons_zero, List.getElem_toArray, List.getElem_cons_zero, List.getElem_cons_succ]
        refine hl_take ?v28 rfl (by kernel_rfl) ?y28 ?z28
        case y28 => intro W hW; skip; replace hW := Lib.hid hW; go_simp; try rfl
        case z28 =>
        simp only [Act.put, List.setIfInBounds_toArray, List.set_cons_succ, List.set_cons_zero, List.getElem_toArray, List.getElem_cons_zero, List.getElem_cons_succ]
        refine hl_done ?_
        clear hS
        go_wp2_with fail
        exact htail.out _ _ _ _ _ _ _ _ _ _ _ _ _ _ _ _ _ _ _ _ _ _ _ _ _ _ _ _ _ _ _ _ _ _ _ _ _ _ _ _ _ _ _ _ _ _ _ _ _ _ _ _ _ _ _ _ _ _ _ _ _ _ _ _ _ _ (Lib.hid (Nat.le_trans List.length_eraseP_le (by have := hL.out; omega))) hT (Lib.hid (hB.out.bring 2 rfl).tail)
      · obtain ⟨_, e0, e1, e2, e3, e4, _⟩ := (hB.out.bring 2 rfl).b5
        have hpk := Lib.hid (paK_le T xn L)
        have hti := hT.out
        have HQ1 := Lib.hid (cpass_any p T xn L _ _ hB.out (by have := hL.out; omega) hti.1 hti.2)
        have HQ2 := Lib.hid (fun V rs h => rpass_any o T xn L V rs h (by have := hL.out; omega) hti.1 hti.2)
        have hT3 := Lib.hid (paT_in (n := xn) hti.1 hti.2)
        have htl := Lib.hid (show (L.take (paK T xn L)).length = paK T xn L by rw [List.length_take]; have := hpk.out; omega)
        have hdl := Lib.hid (show (L.drop (paK T xn L)).length ≤ k + 1 by rw [List.length_drop]; have := hL.out; omega)
        have hm9 := Lib.hid (show paK T xn L ≤ 900 by have := hpk.out; have := hL.out; omega)
        clear hti hpk
        generalize paK T xn L = m at *
        generalize paE xn = pe at *
        generalize paT T xn = T3 at *
        go_wp2_with fail
        refine HQ1.out.mono ?_
        rintro e w7 ⟨la, lc, rfl, hS7⟩
        replace hS7 := Lib.hid (hS7.bring 2 rfl)
        clear HQ1 hB e0 e1 e2 e3 e4
        obtain ⟨_, e0, e1, e2, e3, e4, _⟩ := (hS7.out.bring 3 rfl).b5
        go_wp2_with fail
        refine (HQ2.out _ _ hS7.out).mono ?_
        rintro e w8 ⟨ra, rc, rfl, hS8⟩
        have Q1 := Lib.hid (same_tm (.slice la m lc) (.slice ra m rc) (L.take m) (L.take m) w8 (by rw [htl.out]; have := hm9.out; omega) (by rw [htl.out]; exact (hS8.bring 2 rfl).vec_rl) (by rw [htl.out]; exact hS8.vec_rl))
        rw [decide_eq_true rfl] at Q1
        replace hS8 := Lib.hid hS8
        clear HQ2 hS7 e0 e1 e2 e3 e4
        go_wp2_with fail
        refine Q1.out.mono ?_
        rintro e w9 ⟨rfl, b9⟩
        have hS9 := hS8.out.below b9
        have hS10 := Lib.hid (show Sep w9 [clockR p T3 (L.drop m), refR o T3 (L.drop m), old w1] from ((((hS9.tail.bring 1 rfl).tail).bring 2 rfl).tail).to1)
        clear Q1 b9 hS9 hS8
        go_wp2_with fail
        exact htail.out _ _ _ _ _ _ _ _ _ _ _ _ _ _ _ _ _ _ _ _ _ _ _ _ _ _ _ _ _ _ _ _ _ _ _ _ _ _ _ _ _ _ _ _ _ _ _ _ _ _ _ _ _ _ _ _ _ _ _ _ _ _ _ _ _ _ hdl hT3 hS10
      · go_wp2_with fail
        exact htail.out _ _ _ _ _ _ _ _ _ _ _ _ _ _ _ _ _ _ _ _ _ _ _ _ _ _ _ _ _ _ _ _ _ _ _ _ _ _ _ _ _ _ _ _ _ _ _ _ _ _ _ _ _ _ _ _ _ _ _ _ _ _ _ _ _ _ (Lib.hid (by have := hL.out; omega)) hT (Lib.hid (hB.out.bring 2 rfl).tail)
    · obtain rfl : k = n := by omega
      clear hL hT
      go_wp2_with fail
      go_ret
      exact ⟨rfl, b1.out.trans ((hS.out.bring 2 rfl).gold.mono b1.out.size)⟩
end Go.Proofs.Ytcbjgibcgalppaa
