/-
  Contracts and plain laws that the walk leans on, part 15. No condition.
-/
import Derived.Test.YthbamhfnemdebaaGreatZVc14
namespace Go.Proofs.YthbamhfnemdebaaGreat
open Go.RowKit
/-- Edges as they come in. -/
def edL (len : Nat) (z : Nat → Nat → Int) : List Ed := (List.range len).map fun k : Nat => ⟨z k 0, z k 1⟩
theorem edL_len (len : Nat) (z : Nat → Nat → Int) : (edL len z).length = len := by simp [edL]
theorem edL_rl {w : World} {a : Option Addr} {len cap : Nat} {z : Nat → Nat → Int} (h : IsRows 2 w a len cap z) (hn : a = none → cap = 0) : RL w (.slice a len cap) 2 (edL len z).length ((edL len z).flatMap Ed.cells) := by
  refine ⟨flat_len Ed.cells 2 ed_len _, a, cap, by rw [edL_len], by rw [edL_len]; exact h.1, hn, fun h0 => ?_⟩
  rw [edL_len] at h0
  obtain ⟨b, off, rfl, hb, hz⟩ := h.2.2 h0
  refine ⟨b, off, rfl, hb, fun j u hj => ?_⟩
  have hj2 : j < len * 2 := by
    have := (List.getElem?_eq_some_iff.1 hj).1
    rw [flat_len Ed.cells 2 ed_len, edL_len] at this
    exact this
  have hk : (edL len z)[j / 2]? = some ⟨z (j / 2) 0, z (j / 2) 1⟩ := by
    unfold edL
    rw [List.getElem?_map, List.getElem?_range (by omega)]
    rfl
  have hf := flat_at Ed.cells 2 ed_len (edL len z) (j / 2) (j % 2) _ hk (by omega)
  rw [show j / 2 * 2 + j % 2 = j by omega, hj] at hf
  have hc := (hz (j / 2) (by omega) (j % 2) (by omega)).1
  rw [show off + j / 2 * 2 + j % 2 = off + j by omega] at hc
  rw [hc]
  have h2 : j % 2 = 0 ∨ j % 2 = 1 := by omega
  rcases h2 with h2 | h2
  · rw [h2] at hf ⊢; exact hf.symm
  · rw [h2] at hf ⊢; exact hf.symm
theorem vicF_len (A : List Ag) : ∀ (f : Nat) (L : List Ed), (vicF A f L).length ≤ f
  | 0, _ => Nat.le_refl _
  | f + 1, L => by
    unfold vicF
    split
    · simp only [List.length_cons]
      have := vicF_len A f (keepL (onE (vc A L)) L)
      omega
    · simp
theorem vic_len1 (A : List Ag) (L : List Ed) : (vic A L).length ≤ L.length + 1 := vicF_len A _ L
theorem of_any (u v : Value) (hs : List Hv) (A : List Ag) (w : World) (hu : HD w u hs) (h6 : hs.length ≤ 6) (h12 : ∀ x ∈ hs, x.l.length ≤ 12) (hv : RL w v 2 A.length (A.flatMap Ag.cells)) (hA : A.length ≤ 1000) :
    Calls Tryz.prog 16 #[u, v] w fun e w' => ∃ a c, e = .returned (.slice a (vic A (sdE (hdsE hs))).length c) ∧ Sep w' [vec 3 1 (.slice a (vic A (sdE (hdsE hs))).length c) (vic A (sdE (hdsE hs))).length ((vic A (sdE (hdsE hs))).map (Value.int .i64)), old w] := by
  have HE := Lib.hid (edges_any u hs w hu (by omega) h12)
  have hXl : (sdE (hdsE hs)).length ≤ 864 := by
    have h1 := sdE_len (hdsE hs)
    have h2 := hdsE_len hs h12
    have : hs.length * 144 ≤ 6 * 144 := Nat.mul_le_mul_right _ h6
    omega
  generalize sdE (hdsE hs) = X at *
  have HV := Lib.hid (fun s W (h : RL W s 2 X.length (X.flatMap Ed.cells)) (hb : Below w.heap.size w W) => victims_any s v X A W h (by omega) (hv.below hb) hA)
  clear hu hv h12
  go_enter Tryz.func16, Tryz.ntmps16
  go_wp2_with fail
  refine HE.out.mono ?_
  rintro e w1 ⟨ea, ec, rfl, q⟩
  replace q := Lib.hid q
  clear HE
  go_wp2_with fail
  refine (HV.out _ _ q.out.vec_rl q.out.tail.gold).mono ?_
  rintro e w2 ⟨va, vc, rfl, q2⟩
  replace q := Lib.hid (q2.graft q.out).drop1
  clear q2 HV
  go_wp2_with fail
  go_ret
  exact ⟨va, vc, rfl, q.out⟩
theorem ofR_any (u v : Value) (hs : List Hv) (A : List Ag) (w : World) (hu : HD w u hs) (h6 : hs.length ≤ 6) (h12 : ∀ x ∈ hs, x.l.length ≤ 12) (hids : ∀ x ∈ hs, IdsD x.l) (hv : RL w v 2 A.length (A.flatMap Ag.cells)) (hA : A.length ≤ 1000) :
    Calls Tryz.prog 17 #[u, v] w fun e w' => ∃ a c, e = .returned (.slice a (vic A (sdE (hdsE hs))).length c) ∧ Sep w' [vec 3 1 (.slice a (vic A (sdE (hdsE hs))).length c) (vic A (sdE (hdsE hs))).length ((vic A (sdE (hdsE hs))).map (Value.int .i64)), old w] := by
  have HE := Lib.hid (edgesR_any u hs w hu (by omega) h12 hids)
  have hXl : (sdE (hdsE hs)).length ≤ 864 := by
    have h1 := sdE_len (hdsE hs)
    have h2 := hdsE_len hs h12
    have : hs.length * 144 ≤ 6 * 144 := Nat.mul_le_mul_right _ h6
    omega
  generalize sdE (hdsE hs) = X at *
  have HV := Lib.hid (fun s W (h : RL W s 2 X.length (X.flatMap Ed.cells)) (hb : Below w.heap.size w W) => victimsR_any s v X A W h (by omega) (hv.below hb) hA)
  clear hu hv h12 hids
  go_enter Tryz.func17, Tryz.ntmps17
  go_wp2_with fail
  refine HE.out.mono ?_
  rintro e w1 ⟨ea, ec, rfl, q⟩
  replace q := Lib.hid q
  clear HE
  go_wp2_with fail
  refine (HV.out _ _ q.out.vec_rl q.out.tail.gold).mono ?_
  rintro e w2 ⟨va, vc, rfl, q2⟩
  replace q := Lib.hid (q2.graft q.out).drop1
  clear q2 HV
  go_wp2_with fail
  go_ret
  exact ⟨va, vc, rfl, q.out⟩
theorem ints_ri {w : World} {a : Option Addr} {len cap : Nat} {z : List Int} (h : IsInts .i64 w a len cap z) : RI w (.slice a len cap) z := by
  obtain ⟨hzl, hzc, hzm, hzr⟩ := h
  exact ⟨a, cap, by rw [hzl], fun h0 => by
    obtain ⟨b, off, ha, hb, hz⟩ := hzr (by omega)
    exact ⟨b, off, ha, hb, fun j hj => (hz j (by omega)).1⟩⟩
theorem ints_src {w : World} {a : Option Addr} {len cap : Nat} {z : List Int} (h : IsInts .i64 w a len cap z) (hn : a = none → cap = 0) : SrcA w 1 (.slice a len cap) len (z.map (Value.int .i64)) := by
  obtain ⟨hzl, hzc, hzm, hzr⟩ := h
  by_cases h0 : 0 < len
  · obtain ⟨b, off, rfl, hb, hz⟩ := hzr h0
    refine .inr ⟨_, _, rfl, by simp [hzl], fun j u hu => ?_⟩
    have hj : j < z.length := by
      rcases Nat.lt_or_ge j z.length with h | h
      · exact h
      · rw [List.getElem?_eq_none (by simpa using h)] at hu; cases hu
    rw [Addr.add_lit, (hz j (by omega)).1]
    simp [hj] at hu
    rw [← hu]
    simp [List.getD, hj]
  · obtain rfl : len = 0 := by omega
    obtain rfl : z = [] := List.eq_nil_of_length_eq_zero hzl
    cases a with
    | none => exact .inl ⟨by rw [hn rfl], rfl, rfl⟩
    | some ad => exact .inr ⟨_, _, rfl, rfl, fun j u hu => by simp at hu⟩
set_option maxHeartbeats 20000000 in
set_option maxRecDepth 100000 in
theorem calls_walk (a0 : Option Addr) (len0 cap0 : Nat) (z0 : Nat → Nat → Int) (a1 : Option Addr) (len1 cap1 : Nat) (z1 : Nat → Nat → Int) (a2 : Option Addr) (len2 cap2 : Nat) (z2 : List Int) (x : Int) (a4 : Option Addr) (len4 cap4 : Nat) (hs : List Hv) (w : World) (hv0 : IsRows 2 w a0 len0 cap0 z0) (hn0 : a0 = none → cap0 = 0) (hv1 : IsRows 2 w a1 len1 cap1 z1) (hn1 : a1 = none → cap1 = 0) (hv2 : IsInts .i64 w a2 len2 cap2 z2) (hn2 : a2 = none → cap2 = 0) (hv4 : HD w (.slice a4 len4 cap4) hs) (hlen : hs.length = len4) :
    Calls Tryz.prog 3 #[.slice a0 len0 cap0, .slice a1 len1 cap1, .slice a2 len2 cap2, .int .i64 x, .slice a4 len4 cap4] w fun e w' => e = .returned (.bool true) ∧ Below w.heap.size w w' := by
  have hE := Lib.hid (edL_rl hv0 hn0)
  have hel := edL_len len0 z0
  have hA := Lib.hid (agL_rl hv1 hn1)
  have hal := agL_len len1 z1
  have hzl := hv2.1
  have hS2 := Lib.hid (ints_src hv2 hn2)
  have hR2 := Lib.hid (ints_ri hv2)
  have hHD := Lib.hid hv4
  clear hv0 hn0 hv1 hn1 hv2 hn2 hv4
  generalize edL len0 z0 = L at *
  generalize agL len1 z1 = A at *
  by_cases h1 : len0 ≤ 30 ∧ len1 ≤ 20 ∧ len2 ≤ 20 ∧ lightH hs 6 = true
  · obtain ⟨h1, h2, h3, hlh⟩ := h1
    have i1 : ¬ ((30 : Int) < (len0 : Int)) := by omega
    have i2 : ¬ ((20 : Int) < (len1 : Int)) := by omega
    have i3 : ¬ ((20 : Int) < (len2 : Int)) := by omega
    have HL := Lib.hid (fun W (hb : Below w.heap.size w W) => light_any (.slice a4 len4 cap4) hs 6 W (hHD.out.below hb) (by omega))
    rw [hlh] at HL
    have HOc := Lib.hid (fun W (hb : Below w.heap.size w W) => own_any a2 len2 cap2 z2 W (hS2.out.below hb) (by omega))
    have HOe := Lib.hid (fun W (hb : Below w.heap.size w W) => ownE_any (.slice a0 len0 cap0) L W (hE.out.below hb) (by omega))
    have HC := Lib.hid (fun u W h (hb : Below w.heap.size w W) => choose_any u (.slice a1 len1 cap1) z2 A W h (by omega) (hA.out.below hb) (by omega))
    have HCr := Lib.hid (fun W (hb : Below w.heap.size w W) => chooseR_any (.slice a2 len2 cap2) (.slice a1 len1 cap1) z2 A W (hR2.out.below hb) (by omega) (hA.out.below hb) (by omega))
    have HA := Lib.hid (fun W (hb : Below w.heap.size w W) => age_any (.slice a1 len1 cap1) A x W (hA.out.below hb) (by omega))
    have HAr := Lib.hid (fun W (hb : Below w.heap.size w W) => ageR_any (.slice a1 len1 cap1) A x W (hA.out.below hb) (by omega))
    have HV := Lib.hid (fun u W h (hb : Below w.heap.size w W) => victims_any u (.slice a1 len1 cap1) L A W h (by omega) (hA.out.below hb) (by omega))
    have HVr := Lib.hid (fun W (hb : Below w.heap.size w W) => victimsR_any (.slice a0 len0 cap0) (.slice a1 len1 cap1) L A W (hE.out.below hb) (by omega) (hA.out.below hb) (by omega))
    have hvl := vic_len1 A L
    have h6 : hs.length ≤ 6 ∧ ∀ k, k < hs.length → (hs.getD k default).l.length ≤ 12 := by
      unfold lightH at hlh
      rw [Bool.and_eq_true, decide_eq_true_eq] at hlh
      exact ⟨hlh.1, fun k hk => by simpa using all_at hlh.2 (k := k) hk⟩
    have hOf : (∀ k, k < hs.length → checkB (hs.getD k default).n (hs.getD k default).l = true) → (∀ y ∈ hs, y.l.length ≤ 12) ∧ ∀ y ∈ hs, IdsD y.l := fun h => by
      refine ⟨fun y hy => ?_, fun y hy => ?_⟩ <;> obtain ⟨k, hk, rfl⟩ := List.getElem_of_mem hy
      · have := h6.2 k hk; simpa [List.getD, hk] using this
      · have := h k hk
        rw [show hs.getD k default = hs[k] by simp [List.getD, hk]] at this
        exact checkB_ids _ _ this
    replace hOf := Lib.hid hOf
    obtain ⟨h6, h12⟩ := h6
    replace h12 := Lib.hid h12
    clear hS2 hR2 hlh
    rw [hel] at HOe HV
    rw [hel] at hvl
    have HOf := Lib.hid (fun W (hb : Below w.heap.size w W) (h12 : ∀ y ∈ hs, y.l.length ≤ 12) => of_any (.slice a4 len4 cap4) (.slice a1 len1 cap1) hs A W (hHD.out.below hb) h6 h12 (hA.out.below hb) (by omega))
    have HOfr := Lib.hid (fun W (hb : Below w.heap.size w W) (h12 : ∀ y ∈ hs, y.l.length ≤ 12) (hid : ∀ y ∈ hs, IdsD y.l) => ofR_any (.slice a4 len4 cap4) (.slice a1 len1 cap1) hs A W (hHD.out.below hb) h6 h12 hid (hA.out.below hb) (by omega))
    have hXl : (∀ y ∈ hs, y.l.length ≤ 12) → (vic A (sdE (hdsE hs))).length ≤ 1000 := fun h => by
      have h1 := sdE_len (hdsE hs)
      have h2 := hdsE_len hs h
      have h3 := vic_len1 A (sdE (hdsE hs))
      have : hs.length * 144 ≤ 6 * 144 := Nat.mul_le_mul_right _ h6
      omega
    replace hXl := Lib.hid hXl
    generalize vic A (sdE (hdsE hs)) = VX at *
    generalize vic A L = VL at *
    generalize chL A z2 = c at *
    generalize ageL A x = ag at *
    generalize decide (0 < z2.length) = bz at *
    clear hel hal hzl
    go_enter Tryz.func3, Tryz.ntmps3
    go_wp2_with fail
    refine (lives_any _).mono ?_
    rintro e w1 ⟨rfl, q⟩
    have hV := Lib.hid ((Sep.start w).below q)
    clear q
    go_wp2_with fail
    refine (HL.out _ hV.out.gold).mono ?_
    rintro e w2 ⟨rfl, rfl⟩
    clear HL
    go_wp2_with fail
    refine (HOc.out _ hV.out.gold).mono ?_
    rintro e w3 ⟨oa, oc, rfl, q⟩
    replace hV := Lib.hid (q.graft hV.out)
    clear q HOc
    go_wp2_with fail
    refine (HC.out _ _ hV.out.vec_ri hV.out.tail.gold).mono ?_
    rintro e w4 ⟨rfl, q⟩
    replace hV := Lib.hid (hV.out.tail.below q)
    clear q HC
    go_wp2_with fail
    refine (HCr.out _ hV.out.gold).mono ?_
    rintro e w5 ⟨rfl, rfl⟩
    clear HCr
    go_wp2_with fail
    refine (HA.out _ hV.out.gold).mono ?_
    rintro e w6 ⟨rfl, q⟩
    replace hV := Lib.hid (hV.out.below q)
    clear q HA
    go_wp2_with fail
    refine (HAr.out _ hV.out.gold).mono ?_
    rintro e w7 ⟨rfl, rfl⟩
    clear HAr
    go_wp2_with fail
    refine (HOe.out _ hV.out.gold).mono ?_
    rintro e w8 ⟨pa, pc, rfl, q⟩
    replace hV := Lib.hid (q.graft hV.out)
    clear q HOe
    go_wp2_with fail
    refine (HV.out _ _ hV.out.vec_rl hV.out.tail.gold).mono ?_
    rintro e w9 ⟨va, vc, rfl, q⟩
    replace hV := Lib.hid (q.graft hV.out).drop1
    clear q HV
    go_wp2_with fail
    refine (HVr.out _ hV.out.tail.gold).mono ?_
    rintro e w10 ⟨ra, rc, rfl, q⟩
    replace hV := Lib.hid (q.graft hV.out)
    clear q HVr
    go_wp2_with fail
    refine (same_true _ _ VL _ (by omega) hV.out.to1.vec_ri hV.out.vec_ri).mono ?_
    rintro e w11 ⟨rfl, m1, rfl⟩
    replace hV := Lib.hid ((hV.out.drewN m1).tail.tail)
    go_wp2_with fail
    clear hE hA
    obtain ⟨n0, hn0⟩ : ∃ n0, hs.length = n0 := ⟨_, rfl⟩
    obtain ⟨ua, uc, huv, hr, hq⟩ := hHD.out
    rw [hn0] at hlen hr hq h6 huv h12 hOf
    subst hlen
    injection huv with huv1 huv2 huv3
    subst huv1
    subst huv3
    replace hr := Lib.hid hr
    replace hq := Lib.hid hq
    replace h12 := Lib.hid h12.out
    replace hOf := Lib.hid hOf.out
    replace hn0 := Lib.hid hn0
    replace hHD := Lib.hid hHD.out
    clear huv2
    generalize hhd : World.drewN _ m1 = wz at *
    clear hhd
    go_loopg [15] n0 (fun gm s3 W => ∃ k : Nat, k ≤ n0 ∧ gm = n0 - k ∧ s3 = .int .i64 k ∧ Hid (∀ j, j < k → checkB (hs.getD j default).n (hs.getD j default).l = true) ∧ Hid (Below w.heap.size w W))
    case atStart => exact ⟨0, Nat.zero_le _, rfl, rfl, Lib.hid (fun j h => absurd h (by omega)), Lib.hid hV.out.gold⟩
    case round =>
      clear hV
      obtain ⟨k, hk, hgm, rfl, hok, hW⟩ := hrel
      by_cases hlt : k < n0
      · obtain ⟨b, off, rfl, hb, hz⟩ := hr.out (by omega)
        obtain ⟨z0, z1, z2, z3⟩ := hz k hlt
        have kk : ∀ o, wr.cell? ⟨b, o, none⟩ = w.cell? ⟨b, o, none⟩ := fun o => hW.out.cell (p := ⟨b, o, none⟩) hb
        rw [← kk] at z0 z1 z2 z3
        have hRQ := hq.out k hlt
        have hx12 := h12.out k hlt
        have hokk := Lib.hid (fun (h : checkB (hs.getD k default).n (hs.getD k default).l = true) j (hj : j < k + 1) => show checkB (hs.getD j default).n (hs.getD j default).l = true from by
          rcases Nat.lt_or_ge j k with h1 | h1
          · exact hok.out j h1
          · obtain rfl : j = k := by omega
            exact h)
        clear hz kk
        generalize hs.getD k default = x at *
        obtain ⟨t, r, nw, v, l⟩ := x
        simp only at z0 z1 z2 z3 hRQ hx12 hokk
        have HC := Lib.hid (checkR_any t r nw v l wr (hRQ.below hW.out) (by omega))
        obtain ⟨qa, qc, rfl, _⟩ := hRQ
        generalize hcb : checkB nw l = cb at *
        replace hcb := Lib.hid hcb
        generalize l.length = m at *
        have i1 : (0 : Int) ≤ (k : Int) := by omega
        have i2 : (k : Int) < (n0 : Int) := by omega
        have hms := Lib.hid (show n0 - (k + 1) < n0 - k from Nat.sub_lt_sub_left hlt (Nat.lt_succ_self k))
        unfold hval at HC
        cases cb with
        | true =>
          rw [if_pos rfl] at HC
          replace hokk := Lib.hid (hokk.out rfl)
          go_wp2_with fail
          refine HC.out.mono ?_
          rintro e w12 ⟨rfl, b2⟩
          replace hW := Lib.hid (belT hW.out b2)
          clear b2 HC z0 z1 z2 z3
          go_wp2_with fail
          go_roundg (n0 - (k + 1))
          case measure => first | exact hms.out | (rw [hgm]; exact hms.out)
          case rel => exact ⟨k + 1, by omega, rfl, by go_num, hokk, hW⟩
        | false =>
          rw [if_neg (by decide)] at HC
          go_wp2_with fail
          refine HC.out.mono ?_
          rintro e w12 ⟨rfl, b2⟩
          replace hW := Lib.hid (belT hW.out b2)
          clear b2 HC z0 z1 z2 z3
          go_wp2_with fail
          go_ret
          exact ⟨rfl, hW.out⟩
      · obtain rfl : k = n0 := by omega
        obtain ⟨g12, gid⟩ := hOf.out hok.out
        have hX := hXl.out g12
        replace HOf := Lib.hid (fun W hb => HOf.out W hb g12)
        replace HOfr := Lib.hid (fun W hb => HOfr.out W hb g12 gid)
        have hV := Lib.hid hW.out
        clear hXl hOf hok hr hq h12 g12 gid
        go_wp2_with fail
        refine (HOf.out _ hV.out).mono ?_
        rintro e w13 ⟨fa, fc, rfl, q⟩
        have hB := Lib.hid q
        clear q HOf
        have hG := Lib.hid (belT hV.out hB.out.tail.gold)
        go_wp2_with fail
        refine (HOfr.out _ hG.out).mono ?_
        rintro e w14 ⟨ga, gc, rfl, q⟩
        replace hB := Lib.hid (q.graft hB.out)
        replace hG := Lib.hid (belT hG.out q.tail.gold)
        clear q HOfr
        go_wp2_with fail
        refine (same_true _ _ VX _ hX hB.out.to1.vec_ri hB.out.vec_ri).mono ?_
        rintro e w15 ⟨rfl, m2, rfl⟩
        replace hG := Lib.hid (belT hG.out ((Sep.start _).drewN m2).gold)
        go_wp2_with fail
        go_ret
        exact ⟨rfl, hG.out⟩
  · have hbad : (30 : Int) < (len0 : Int) ∨ (20 : Int) < (len1 : Int) ∨ (20 : Int) < (len2 : Int) ∨ lightH hs 6 = false := by
      rcases Nat.lt_or_ge 30 len0 with h | h
      · exact .inl (by omega)
      · rcases Nat.lt_or_ge 20 len1 with h' | h'
        · exact .inr (.inl (by omega))
        · rcases Nat.lt_or_ge 20 len2 with h'' | h''
          · exact .inr (.inr (.inl (by omega)))
          · refine .inr (.inr (.inr ?_))
            cases hl : lightH hs 6 with
            | false => rfl
            | true => exact absurd ⟨h, h', h'', hl⟩ h1
    clear h1
    have HL := Lib.hid (fun W (hb : Below w.heap.size w W) => light_any (.slice a4 len4 cap4) hs 6 W (hHD.out.below hb) (by omega))
    clear hE hA hS2 hR2 hHD hel hal hzl
    by_cases k1 : (30 : Int) < (len0 : Int)
    · go_enter Tryz.func3, Tryz.ntmps3
      go_wp2_with fail
      refine (lives_any _).mono ?_
      rintro e w1 ⟨rfl, q⟩
      replace q := Lib.hid q
      go_wp2_with fail
      go_ret
      exact ⟨rfl, q.out⟩
    · by_cases k2 : (20 : Int) < (len1 : Int)
      · go_enter Tryz.func3, Tryz.ntmps3
        go_wp2_with fail
        refine (lives_any _).mono ?_
        rintro e w1 ⟨rfl, q⟩
        replace q := Lib.hid q
        go_wp2_with fail
        go_ret
        exact ⟨rfl, q.out⟩
      · by_cases k3 : (20 : Int) < (len2 : Int)
        · go_enter Tryz.func3, Tryz.ntmps3
          go_wp2_with fail
          refine (lives_any _).mono ?_
          rintro e w1 ⟨rfl, q⟩
          replace q := Lib.hid q
          go_wp2_with fail
          go_ret
          exact ⟨rfl, q.out⟩
        · have hl : lightH hs 6 = false := by
            rcases hbad with h | h | h | h
            · exact absurd h k1
            · exact absurd h k2
            · exact absurd h k3
            · exact h
          rw [hl] at HL
          clear hbad hl
          go_enter Tryz.func3, Tryz.ntmps3
          go_wp2_with fail
          refine (lives_any _).mono ?_
          rintro e w1 ⟨rfl, q⟩
          replace q := Lib.hid q
          go_wp2_with fail
          refine (HL.out _ q.out).mono ?_
          rintro e w2 ⟨rfl, rfl⟩
          go_wp2_with fail
          go_ret
          exact ⟨rfl, q.out⟩
end Go.Proofs.YthbamhfnemdebaaGreat
