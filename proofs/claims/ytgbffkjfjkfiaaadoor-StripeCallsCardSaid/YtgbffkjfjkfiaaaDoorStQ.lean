/-
  The reference's sums, texts and stripes of names. No condition.
-/
import Derived.Test.YtgbffkjfjkfiaaaDoorStR
import Derived.Test.YtgbffkjfjkfiaaaDoorStNames
import Derived.Test.YtgbffkjfjkfiaaaDoorHl
namespace Go.Proofs.YtgbffkjfjkfiaaaDoor
open Go.RowKit
open Go.Lib
theorem sumR_any (s : ByteArray) (w : World) (hs : s.size ≤ 1001) : Calls Tryd.prog 17 #[.string s] w fun e w' => e = .returned (.int .u32 (sumN s.data.toList)) ∧ w = w' := by
  go_enter Tryd.func17, Tryd.ntmps17
  go_wp2
  go_loop [3, 4] (fun h i => ∃ k : Nat, k ≤ s.size ∧ i = .int .i64 k ∧ h = .int .u32 (sumN (s.data.toList.take k))) (fun _ i => s.size - (intOf i).toNat)
  case atStart => exact ⟨0, Nat.zero_le _, rfl, rfl⟩
  case round =>
    obtain ⟨k, hk, rfl, rfl⟩ := hrel
    by_cases hlt : k < s.size
    · have hsl := sum_lt (s.data.toList.take k)
      have E := Lib.hid (show sumN (s.data.toList.take (k + 1)) = step32 (sumN (s.data.toList.take k)) s[k] by
        rw [List.take_succ_eq_append_getElem (by simpa using hlt), sum_snoc]; rfl)
      generalize sumN (s.data.toList.take k) = h at *
      have hb8 : s[k].toNat < 256 := s[k].toNat_lt
      have hx := xor_u32 h s[k].toNat hsl (by omega)
      replace hx := Lib.hid hx
      have hx' := hx.out
      go_wp2
      go_round
      case rel => exact ⟨k + 1, by omega, by go_num, by rw [E.out]; exact congrArg (Value.int .u32) (by unfold step32; omega)⟩
      case measure => simp [intOf]; omega
    · go_wp2
      go_ret
      have : k = s.size := by omega
      subst this
      refine ⟨?_, rfl⟩
      rw [List.take_of_length_le (by simp)]
      rfl
theorem ext2 (C : ByteArray) (h : ((List.range 100).all fun i => decide (i < 10) || decide (C.extract (i / 10) (i / 10 + 1) ++ C.extract (i % 10) (i % 10 + 1) = dgB i)) = true) (n : Nat) (h1 : 10 ≤ n) (hn : n < 100) : C.extract (n / 10) (n / 10 + 1) ++ C.extract (n % 10) (n % 10 + 1) = dgB n := by
  have := List.all_eq_true.1 h n (List.mem_range.2 hn)
  rw [decide_eq_false (by omega), Bool.false_or] at this
  exact of_decide_eq_true this
theorem digitsR_any (n : Nat) (hn : n < 100) (w : World) : Calls Tryd.prog 31 #[.int .i64 n] w fun e w' => e = .returned (.string (dgB n)) ∧ ∃ m, w' = w.drewN m := by
  have h0 : (0 : Int) ≤ (n : Int) := by omega
  have h1 : (n : Int) < 100 := by omega
  by_cases h : n < 10
  · have HC := Lib.hid (fun C hC => ext10 C hC n h)
    go_enter Tryd.func31, Tryd.ntmps31
    go_wp2
    go_ret
    exact ⟨congrArg (fun x => Ending.returned (.string x)) (HC.out _ (by kernel_rfl)), 0, rfl⟩
  · have HC := Lib.hid (fun C hC => ext2 C hC n (by omega) hn)
    have q1 : (n : Int) / 10 < 10 := by omega
    have q2 : (n : Int) % 10 < 10 := by omega
    have q3 : (0 : Int) ≤ (n : Int) / 10 := by omega
    have q4 : (0 : Int) ≤ (n : Int) % 10 := by omega
    go_enter Tryd.func31, Tryd.ntmps31
    go_wp2
    go_quiet (fail)
    go_wp2
    go_ret
    exact ⟨congrArg (fun x => Ending.returned (.string x)) (HC.out _ (by kernel_rfl)), _, rfl⟩
set_option maxRecDepth 100000 in
theorem textR_any (t r : Int) (w : World) : Calls Tryd.prog 27 #[(.agg #[.int .i64 t, .int .i64 r])] w fun e w' => e = .returned (.string (txt t r)) ∧ Below w.heap.size w w' := by
  have hS := Lib.hid (box1 w t r)
  obtain ⟨z, c0, c1, _⟩ := hS.out.b2
  rcases lv_spec t r with ⟨h1, h2, hl⟩ | ⟨h1, h2, h3, hl⟩ | ⟨h1, h2, h3, h4, hl⟩ | ⟨hl, h1, h2⟩
  · have E := Lib.hid (show txt t r = ⟨#[100, 98]⟩ by simp [txt, hl])
    have L := Lib.hid (fun W => levelR_any t r W)
    rw [hl] at L
    clear hl h1 h2
    go_enter Tryd.func27, Tryd.ntmps27
    go_wp2_with fail
    refine (L.out _).mono ?_
    rintro e w1 ⟨rfl, b1⟩
    replace hS := Lib.hid (hS.out.below b1)
    clear b1 c0 c1
    go_wp2_with fail
    go_ret
    exact ⟨by rw [E.out]; rfl, hS.out.tail.gold⟩
  · have E := Lib.hid (show txt t r = ⟨#[116]⟩ ++ dgB t.toNat by simp [txt, hl])
    have L := Lib.hid (fun W => levelR_any t r W)
    rw [hl] at L
    obtain ⟨n, rfl⟩ := Int.eq_ofNat_of_zero_le h1
    have hn : n < 100 := by omega
    have hz := dgB_size n
    have H := Lib.hid (digitsR_any n hn)
    clear hl h1 h2 h3
    go_enter Tryd.func27, Tryd.ntmps27
    go_wp2_with fail
    refine (L.out _).mono ?_
    rintro e w1 ⟨rfl, b1⟩
    replace hS := Lib.hid (hS.out.below b1)
    clear b1 c0 c1
    obtain ⟨_, c0, c1, _⟩ := hS.out.b2
    go_wp2_with fail
    refine (H.out _).mono ?_
    rintro e w2 ⟨rfl, q, rfl⟩
    replace hS := Lib.hid (hS.out.drewN q)
    go_wp2_with fail
    go_ret
    exact ⟨by rw [E.out]; rfl, hS.out.tail.gold⟩
  · have E := Lib.hid (show txt t r = ⟨#[116]⟩ ++ dgB t.toNat ++ ⟨#[46, 114]⟩ ++ dgB r.toNat by simp [txt, hl])
    have L := Lib.hid (fun W => levelR_any t r W)
    rw [hl] at L
    obtain ⟨n, rfl⟩ := Int.eq_ofNat_of_zero_le h1
    obtain ⟨m, rfl⟩ := Int.eq_ofNat_of_zero_le h3
    have hn : n < 100 := by omega
    have hm : m < 100 := by omega
    have hz := dgB_size n
    have hz2 := dgB_size m
    have H := Lib.hid (digitsR_any n hn)
    have H2 := Lib.hid (digitsR_any m hm)
    clear hl h1 h2 h3 h4
    go_enter Tryd.func27, Tryd.ntmps27
    go_wp2_with fail
    refine (L.out _).mono ?_
    rintro e w1 ⟨rfl, b1⟩
    replace hS := Lib.hid (hS.out.below b1)
    clear b1 c0 c1
    obtain ⟨_, c0, c1, _⟩ := hS.out.b2
    go_wp2_with fail
    go_quiet (first | (go_at_call 31; with_reducible exact Calls.quiet_of (H.out _)) | (go_at_call 31; with_reducible exact Calls.quiet_of (H2.out _)))
    go_wp2_with fail
    go_ret
    exact ⟨by rw [E.out]; rfl, (hS.out.drewN _).tail.gold⟩
  · have E := Lib.hid (show txt t r = ⟨#[63]⟩ by simp [txt, hl])
    have L := Lib.hid (fun W => levelR_any t r W)
    rw [hl] at L
    clear hl h1 h2
    go_enter Tryd.func27, Tryd.ntmps27
    go_wp2_with fail
    refine (L.out _).mono ?_
    rintro e w1 ⟨rfl, b1⟩
    replace hS := Lib.hid (hS.out.below b1)
    clear b1 c0 c1
    go_wp2_with fail
    go_ret
    exact ⟨by rw [E.out]; rfl, hS.out.tail.gold⟩
theorem hashR_any (t r : Int) (w : World) : Calls Tryd.prog 18 #[(.agg #[.int .i64 t, .int .i64 r])] w fun e w' => e = .returned (.int .u32 (hashN t r)) ∧ Below w.heap.size w w' := by
  have hS := Lib.hid (box1 w t r)
  obtain ⟨z, c0, c1, _⟩ := hS.out.b2
  have HS := Lib.hid (fun W => sumR_any (txt t r) W (by have := txt_size t r; omega))
  have E := Lib.hid (show hashN t r = sumN (txt t r).data.toList from rfl)
  go_enter Tryd.func18, Tryd.ntmps18
  go_wp2_with fail
  refine (textR_any _ _ _).mono ?_
  rintro e w1 ⟨rfl, b1⟩
  replace hS := Lib.hid (hS.out.below b1)
  clear b1 c0 c1
  go_wp2_with fail
  refine (HS.out _).mono ?_
  rintro e w2 ⟨rfl, rfl⟩
  go_wp2_with fail
  go_ret
  exact ⟨by rw [E.out]; rfl, hS.out.tail.gold⟩
theorem ofR_any (t r s : Int) (w : World) : Calls Tryd.prog 19 #[(.agg #[.int .i64 t, .int .i64 r]), .int .i64 s] w fun e w' => e = .returned (.int .i64 (ofV t r s)) ∧ Below w.heap.size w w' := by
  have hS := Lib.hid (box1 w t r)
  obtain ⟨z, c0, c1, _⟩ := hS.out.b2
  have HC := Lib.hid (fun W => checkR_any t r W)
  by_cases hl : lv t r = -1
  · have E := Lib.hid (show ofV t r s = -1 by unfold ofV; rw [if_neg (fun h => h.2.2 hl)])
    rw [if_pos hl] at HC
    clear hl
    go_enter Tryd.func19, Tryd.ntmps19
    go_wp2_with fail
    refine (HC.out _).mono ?_
    rintro e w1 ⟨rfl, b1⟩
    replace hS := Lib.hid (hS.out.below b1)
    clear b1 c0 c1
    go_wp2_with fail
    go_ret
    exact ⟨by rw [E.out]; rfl, hS.out.tail.gold⟩
  · rw [if_neg hl] at HC
    by_cases hm : 1 ≤ s ∧ s ≤ 16
    · obtain ⟨h1, h2⟩ := hm
      have E := Lib.hid (show ofV t r s = (hashN t r : Int) % s by unfold ofV; rw [if_pos ⟨h1, h2, hl⟩])
      have hlt := hashN_lt t r
      have HH := Lib.hid (fun W => hashR_any t r W)
      have h0 : (0 : Int) ≤ (hashN t r : Int) := by omega
      have hm1 := Int.emod_nonneg (hashN t r : Int) (show s ≠ 0 by omega)
      have hm2 := Int.emod_lt_of_pos (hashN t r : Int) (show 0 < s by omega)
      clear hl
      generalize hashN t r = h at *
      go_enter Tryd.func19, Tryd.ntmps19
      go_wp2_with fail
      refine (HC.out _).mono ?_
      rintro e w1 ⟨rfl, b1⟩
      replace hS := Lib.hid (hS.out.below b1)
      clear b1 c0 c1
      obtain ⟨_, c0, c1, _⟩ := hS.out.b2
      go_wp2_with fail
      refine (HH.out _).mono ?_
      rintro e w2 ⟨rfl, b2⟩
      replace hS := Lib.hid (hS.out.below b2)
      clear b2
      go_wp2_with fail
      go_ret
      exact ⟨by rw [E.out]; rfl, hS.out.tail.gold⟩
    · have E := Lib.hid (show ofV t r s = -1 by unfold ofV; rw [if_neg (fun h => hm ⟨h.1, h.2.1⟩)])
      have h3 : s < 1 ∨ (¬ s < 1 ∧ 16 < s) := by omega
      clear hl hm
      rcases h3 with h3 | ⟨h3, h4⟩
      all_goals
        go_enter Tryd.func19, Tryd.ntmps19
        go_wp2_with fail
        refine (HC.out _).mono ?_
        rintro e w1 ⟨rfl, b1⟩
        replace hS := Lib.hid (hS.out.below b1)
        clear b1 c0 c1
        go_wp2_with fail
        go_ret
        exact ⟨by rw [E.out]; rfl, hS.out.tail.gold⟩
set_option maxHeartbeats 1000000 in
theorem sameR_any (t r t' r' s : Int) (w : World) : Calls Tryd.prog 20 #[(.agg #[.int .i64 t, .int .i64 r]), (.agg #[.int .i64 t', .int .i64 r']), .int .i64 s] w fun e w' => e = .returned (.bool (sameV t r t' r' s)) ∧ Below w.heap.size w w' := by
  have hS0 := Lib.hid (box2s w t r t' r')
  have H1 := Lib.hid (fun W => ofR_any t r s W)
  have H2 := Lib.hid (fun W => ofR_any t' r' s W)
  have E := Lib.hid (show sameV t r t' r' s = (decide (0 ≤ ofV t r s) && (ofV t r s == ofV t' r' s)) from rfl)
  generalize ofV t r s = x at *
  generalize ofV t' r' s = y at *
  by_cases h0 : 0 ≤ x
  · have e0 := decide_eq_true h0
    have e1 : decide (x ≥ 0) = true := decide_eq_true h0
    go_enter Tryd.func20, Tryd.ntmps20
    go_wp2_with fail
    have hS := Lib.hid (show (fun W : World => Sep W [blk (w.heap.size + 1) 29 #[Value.int .i64 (t'), Value.int .i64 (r')], blk w.heap.size 29 #[Value.int .i64 (t), Value.int .i64 (r)], old w]) _ from hS0.out.drew)
    refine hl_begin (fun W : World => Sep W [blk (w.heap.size + 1) 29 #[Value.int .i64 (t'), Value.int .i64 (r')], blk w.heap.size 29 #[Value.int .i64 (t), Value.int .i64 (r)], old w]) [(0, true), (1, true), (2, false), (3, true), (4, true), (5, true), (6, true), (8, true), (9, true), (7, false), (10, false), (11, true), (12, true), (13, true)] (by kernel_rfl) (by kernel_rfl) (by kernel_rfl) rfl (fun _ _ _ _ _ h => h) hS.out ?_
    change HL _ _ _ _ _ _ (World.drew _)
    generalize World.drew _ = wd at *
    refine hl_take ?v1 rfl (by kernel_rfl) ?y1 ?z1
    case y1 => intro W hW; change Sep W _ at hW; have d0 := hW.b2.2.1; have d1 := hW.b2.2.2.1; have c0 := hW.to1.b2.2.1; have c1 := hW.to1.b2.2.2.1; replace hW := Lib.hid hW; go_simp; try rfl
    case z1 =>
    simp only [Act.put, List.setIfInBounds_toArray, List.set_cons_succ, List.set_cons_zero, List.getElem_toArray, List.getElem_cons_zero, List.getElem_cons_succ]
    refine hl_take ?v2 rfl (by kernel_rfl) ?y2 ?z2
    case y2 => intro W hW; skip; replace hW := Lib.hid hW; go_simp; try rfl
    case z2 =>
    simp only [Act.put, List.setIfInBounds_toArray, List.set_cons_succ, List.set_cons_zero, List.getElem_toArray, List.getElem_cons_zero, List.getElem_cons_succ]
    refine hl_one rfl (by kernel_rfl) (fun K hK => ?_)
    go_simp
    refine (H1.out _).mono ?_
    rintro e w2 ⟨rfl, b2⟩
    replace hS := Lib.hid (hS.out.below b2)
    clear b2
    refine hK.out _ _ hS.out ?_
    clear hK K
    try simp only [Act.put, List.setIfInBounds_toArray, List.set_cons_succ, List.set_cons_zero, List.getElem_toArray, List.getElem_cons_zero, List.getElem_cons_succ]
    refine hl_take ?v3 rfl (by kernel_rfl) ?y3 ?z3
    case y3 => intro W hW; skip; replace hW := Lib.hid hW; go_simp; try rfl
    case z3 =>
    simp only [Act.put, List.setIfInBounds_toArray, List.set_cons_succ, List.set_cons_zero, List.getElem_toArray, List.getElem_cons_zero, List.getElem_cons_succ]
    refine hl_take ?v4 rfl (by kernel_rfl) ?y4 ?z4
    case y4 => intro W hW; skip; replace hW := Lib.hid hW; go_simp; try rfl
    case z4 =>
    simp only [Act.put, List.setIfInBounds_toArray, List.set_cons_succ, List.set_cons_zero, List.getElem_toArray, List.getElem_cons_zero, List.getElem_cons_succ]
    refine hl_take ?v5 rfl (by kernel_rfl) ?y5 ?z5
    case y5 => intro W hW; change Sep W _ at hW; have d0 := hW.b2.2.1; have d1 := hW.b2.2.2.1; have c0 := hW.to1.b2.2.1; have c1 := hW.to1.b2.2.2.1; replace hW := Lib.hid hW; go_simp; try rfl
    case z5 =>
    simp only [Act.put, List.setIfInBounds_toArray, List.set_cons_succ, List.set_cons_zero, List.getElem_toArray, List.getElem_cons_zero, List.getElem_cons_succ]
    refine hl_take ?v6 rfl (by kernel_rfl) ?y6 ?z6
    case y6 => intro W hW; skip; replace hW := Lib.hid hW; go_simp; try rfl
    case z6 =>
    simp only [Act.put, List.setIfInBounds_toArray, List.set_cons_succ, List.set_cons_zero, List.getElem_toArray, List.getElem_cons_zero, List.getElem_cons_succ]
    refine hl_take ?v7 rfl (by kernel_rfl) ?y7 ?z7
    case y7 => intro W hW; change Sep W _ at hW; have d0 := hW.b2.2.1; have d1 := hW.b2.2.2.1; have c0 := hW.to1.b2.2.1; have c1 := hW.to1.b2.2.2.1; replace hW := Lib.hid hW; go_simp; try rfl
    case z7 =>
    simp only [Act.put, List.setIfInBounds_toArray, List.set_cons_succ, List.set_cons_zero, List.getElem_toArray, List.getElem_cons_zero, List.getElem_cons_succ]
    refine hl_take ?v8 rfl (by kernel_rfl) ?y8 ?z8
    case y8 => intro W hW; skip; replace hW := Lib.hid hW; go_simp; try rfl
    case z8 =>
    simp only [Act.put, List.setIfInBounds_toArray, List.set_cons_succ, List.set_cons_zero, List.getElem_toArray, List.getElem_cons_zero, List.getElem_cons_succ]
    refine hl_one rfl (by kernel_rfl) (fun K hK => ?_)
    go_simp
    refine (H1.out _).mono ?_
    rintro e w2 ⟨rfl, b2⟩
    replace hS := Lib.hid (hS.out.below b2)
    clear b2
    refine hK.out _ _ hS.out ?_
    clear hK K
    try simp only [Act.put, List.setIfInBounds_toArray, List.set_cons_succ, List.set_cons_zero, List.getElem_toArray, List.getElem_cons_zero, List.getElem_cons_succ]
    refine hl_one rfl (by kernel_rfl) (fun K hK => ?_)
    go_simp
    refine (H2.out _).mono ?_
    rintro e w2 ⟨rfl, b2⟩
    replace hS := Lib.hid (hS.out.below b2)
    clear b2
    refine hK.out _ _ hS.out ?_
    clear hK K
    try simp only [Act.put, List.setIfInBounds_toArray, List.set_cons_succ, List.set_cons_zero, List.getElem_toArray, List.getElem_cons_zero, List.getElem_cons_succ]
    refine hl_take ?v9 rfl (by kernel_rfl) ?y9 ?z9
    case y9 => intro W hW; skip; replace hW := Lib.hid hW; go_simp; try rfl
    case z9 =>
    simp only [Act.put, List.setIfInBounds_toArray, List.set_cons_succ, List.set_cons_zero, List.getElem_toArray, List.getElem_cons_zero, List.getElem_cons_succ]
    refine hl_take ?v10 rfl (by kernel_rfl) ?y10 ?z10
    case y10 => intro W hW; skip; replace hW := Lib.hid hW; go_simp; try rfl
    case z10 =>
    simp only [Act.put, List.setIfInBounds_toArray, List.set_cons_succ, List.set_cons_zero, List.getElem_toArray, List.getElem_cons_zero, List.getElem_cons_succ]
    refine hl_take ?v11 rfl (by kernel_rfl) ?y11 ?z11
    case y11 => intro W hW; skip; replace hW := Lib.hid hW; go_simp; try rfl
    case z11 =>
    simp only [Act.put, List.setIfInBounds_toArray, List.set_cons_succ, List.set_cons_zero, List.getElem_toArray, List.getElem_cons_zero, List.getElem_cons_succ]
    refine hl_done ?_
    skip
    go_wp2_with fail
    go_ret
    exact ⟨by rw [E.out, e0]; rfl, hS.out.tail.tail.gold⟩
  · have e0 := decide_eq_false h0
    have e1 : decide (x ≥ 0) = false := decide_eq_false h0
    go_enter Tryd.func20, Tryd.ntmps20
    go_wp2_with fail
    have hS := Lib.hid (show (fun W : World => Sep W [blk (w.heap.size + 1) 29 #[Value.int .i64 (t'), Value.int .i64 (r')], blk w.heap.size 29 #[Value.int .i64 (t), Value.int .i64 (r)], old w]) _ from hS0.out.drew)
    refine hl_begin (fun W : World => Sep W [blk (w.heap.size + 1) 29 #[Value.int .i64 (t'), Value.int .i64 (r')], blk w.heap.size 29 #[Value.int .i64 (t), Value.int .i64 (r)], old w]) [(0, true), (1, true), (2, false), (3, true), (4, true), (5, true), (6, true), (8, true), (9, true), (7, false), (10, false), (11, true), (12, true), (13, true)] (by kernel_rfl) (by kernel_rfl) (by kernel_rfl) rfl (fun _ _ _ _ _ h => h) hS.out ?_
    change HL _ _ _ _ _ _ (World.drew _)
    generalize World.drew _ = wd at *
    refine hl_take ?v12 rfl (by kernel_rfl) ?y12 ?z12
    case y12 => intro W hW; change Sep W _ at hW; have d0 := hW.b2.2.1; have d1 := hW.b2.2.2.1; have c0 := hW.to1.b2.2.1; have c1 := hW.to1.b2.2.2.1; replace hW := Lib.hid hW; go_simp; try rfl
    case z12 =>
    simp only [Act.put, List.setIfInBounds_toArray, List.set_cons_succ, List.set_cons_zero, List.getElem_toArray, List.getElem_cons_zero, List.getElem_cons_succ]
    refine hl_take ?v13 rfl (by kernel_rfl) ?y13 ?z13
    case y13 => intro W hW; skip; replace hW := Lib.hid hW; go_simp; try rfl
    case z13 =>
    simp only [Act.put, List.setIfInBounds_toArray, List.set_cons_succ, List.set_cons_zero, List.getElem_toArray, List.getElem_cons_zero, List.getElem_cons_succ]
    refine hl_one rfl (by kernel_rfl) (fun K hK => ?_)
    go_simp
    refine (H1.out _).mono ?_
    rintro e w2 ⟨rfl, b2⟩
    replace hS := Lib.hid (hS.out.below b2)
    clear b2
    refine hK.out _ _ hS.out ?_
    clear hK K
    try simp only [Act.put, List.setIfInBounds_toArray, List.set_cons_succ, List.set_cons_zero, List.getElem_toArray, List.getElem_cons_zero, List.getElem_cons_succ]
    refine hl_take ?v14 rfl (by kernel_rfl) ?y14 ?z14
    case y14 => intro W hW; skip; replace hW := Lib.hid hW; go_simp; try rfl
    case z14 =>
    simp only [Act.put, List.setIfInBounds_toArray, List.set_cons_succ, List.set_cons_zero, List.getElem_toArray, List.getElem_cons_zero, List.getElem_cons_succ]
    refine hl_take ?v15 rfl (by kernel_rfl) ?y15 ?z15
    case y15 => intro W hW; skip; replace hW := Lib.hid hW; go_simp; try rfl
    case z15 =>
    simp only [Act.put, List.setIfInBounds_toArray, List.set_cons_succ, List.set_cons_zero, List.getElem_toArray, List.getElem_cons_zero, List.getElem_cons_succ]
    refine hl_skip rfl (by kernel_rfl) ?_
    simp only [Act.put, List.setIfInBounds_toArray, List.set_cons_succ, List.set_cons_zero, List.getElem_toArray, List.getElem_cons_zero, List.getElem_cons_succ]
    refine hl_skip rfl (by kernel_rfl) ?_
    simp only [Act.put, List.setIfInBounds_toArray, List.set_cons_succ, List.set_cons_zero, List.getElem_toArray, List.getElem_cons_zero, List.getElem_cons_succ]
    refine hl_skip rfl (by kernel_rfl) ?_
    simp only [Act.put, List.setIfInBounds_toArray, List.set_cons_succ, List.set_cons_zero, List.getElem_toArray, List.getElem_cons_zero, List.getElem_cons_succ]
    refine hl_skip rfl (by kernel_rfl) ?_
    simp only [Act.put, List.setIfInBounds_toArray, List.set_cons_succ, List.set_cons_zero, List.getElem_toArray, List.getElem_cons_zero, List.getElem_cons_succ]
    refine hl_skip1 rfl (by kernel_rfl) ?_
    simp only [Act.put, List.setIfInBounds_toArray, List.set_cons_succ, List.set_cons_zero, List.getElem_toArray, List.getElem_cons_zero, List.getElem_cons_succ]
    refine hl_skip1 rfl (by kernel_rfl) ?_
    simp only [Act.put, List.setIfInBounds_toArray, List.set_cons_succ, List.set_cons_zero, List.getElem_toArray, List.getElem_cons_zero, List.getElem_cons_succ]
    refine hl_skip rfl (by kernel_rfl) ?_
    simp only [Act.put, List.setIfInBounds_toArray, List.set_cons_succ, List.set_cons_zero, List.getElem_toArray, List.getElem_cons_zero, List.getElem_cons_succ]
    refine hl_take ?v16 rfl (by kernel_rfl) ?y16 ?z16
    case y16 => intro W hW; skip; replace hW := Lib.hid hW; go_simp; try rfl
    case z16 =>
    simp only [Act.put, List.setIfInBounds_toArray, List.set_cons_succ, List.set_cons_zero, List.getElem_toArray, List.getElem_cons_zero, List.getElem_cons_succ]
    refine hl_take ?v17 rfl (by kernel_rfl) ?y17 ?z17
    case y17 => intro W hW; skip; replace hW := Lib.hid hW; go_simp; try rfl
    case z17 =>
    simp only [Act.put, List.setIfInBounds_toArray, List.set_cons_succ, List.set_cons_zero, List.getElem_toArray, List.getElem_cons_zero, List.getElem_cons_succ]
    refine hl_done ?_
    skip
    go_wp2_with fail
    go_ret
    exact ⟨by rw [E.out, e0]; rfl, hS.out.tail.tail.gold⟩
end Go.Proofs.YtgbffkjfjkfiaaaDoor
