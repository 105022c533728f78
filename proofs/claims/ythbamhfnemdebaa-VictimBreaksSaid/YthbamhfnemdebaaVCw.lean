/-
  The walk of VictimChoice. No condition beside arguments that can be read.
-/
import Derived.Test.YthbamhfnemdebaaVCp
import Derived.Test.YthbamhfnemdebaaOpen
import Derived.Test.YthbamhfnemdebaaOpenN
import Derived.Test.YthbamhfnemdebaaPick
namespace Go.Proofs.Ythbamhfnemdebaa
open Go.RowKit
/-- Ages as they come in. -/
def agL (len : Nat) (z : Nat → Nat → Int) : List Ag := (List.range len).map fun k : Nat => ⟨z k 0, z k 1⟩
theorem agL_len (len : Nat) (z : Nat → Nat → Int) : (agL len z).length = len := by simp [agL]
theorem agL_rl {w : World} {a : Option Addr} {len cap : Nat} {z : Nat → Nat → Int} (h : IsRows 2 w a len cap z) (hn : a = none → cap = 0) : RL w (.slice a len cap) 2 (agL len z).length ((agL len z).flatMap Ag.cells) := by
  refine ⟨flat_len Ag.cells 2 ag_len _, a, cap, by rw [agL_len], by rw [agL_len]; exact h.1, hn, fun h0 => ?_⟩
  rw [agL_len] at h0
  obtain ⟨b, off, rfl, hb, hz⟩ := h.2.2 h0
  refine ⟨b, off, rfl, hb, fun j u hj => ?_⟩
  have hj2 : j < len * 2 := by
    have := (List.getElem?_eq_some_iff.1 hj).1
    rw [flat_len Ag.cells 2 ag_len, agL_len] at this
    exact this
  have hk : (agL len z)[j / 2]? = some ⟨z (j / 2) 0, z (j / 2) 1⟩ := by
    unfold agL
    rw [List.getElem?_map, List.getElem?_range (by omega)]
    rfl
  have hf := flat_at Ag.cells 2 ag_len (agL len z) (j / 2) (j % 2) _ hk (by omega)
  rw [show j / 2 * 2 + j % 2 = j by omega, hj] at hf
  have hc := (hz (j / 2) (by omega) (j % 2) (by omega)).1
  rw [show off + j / 2 * 2 + j % 2 = off + j by omega] at hc
  rw [hc]
  have h2 : j % 2 = 0 ∨ j % 2 = 1 := by omega
  rcases h2 with h2 | h2
  · rw [h2] at hf ⊢; exact hf.symm
  · rw [h2] at hf ⊢; exact hf.symm
theorem fresh_int (w : World) : Sep (w.alloc (.cells #[] 3)) [vec 3 1 (.slice (some ⟨w.heap.size, 0, none⟩) 0 0) 0 [], old w] :=
  (Sep.start w).vec_new (World.ownsRow_made w #[] 0 (Nat.le_refl _) (Nat.zero_le _) rfl) ((Below.refl _ _).alloc (Nat.le_refl _) _)
theorem ints_one (xs : List Int) : ∀ u ∈ xs.map (Value.int .i64), u.oneCell' = true := by
  intro u hu
  obtain ⟨x, _, rfl⟩ := List.mem_map.1 hu
  rfl
set_option maxHeartbeats 4000000 in
theorem own_any (a : Option Addr) (n c : Nat) (xs : List Int) (w : World) (hv : SrcA w 1 (.slice a n c) n (xs.map (Value.int .i64))) (hl : n ≤ 1000) :
    Calls Try.prog 16 #[.slice a n c] w fun e w' => ∃ a' c', e = .returned (.slice a' n c') ∧ Sep w' [vec 3 1 (.slice a' n c') n (xs.map (Value.int .i64)), old w] := by
  have h1 := Lib.hid (ints_one xs)
  obtain ⟨i0, hi, hz0, hz1, hz2⟩ := info_parts info_int
  have hE := Lib.hid (fresh_int w)
  have hS2 := Lib.hid (show SrcA (w.alloc (.cells #[] 3)) 1 (.slice a n c) n (xs.map (Value.int .i64)) from hv.below ((Below.refl _ _).alloc (Nat.le_refl _) _))
  clear hv
  go_enter Try.func16, Try.ntmps16
  go_wp2_with (at_builtin; refine wpList_append_sep hE.out rfl _ _ 25 rfl i0 _ 8 Try.underlying25 hi hz0 hz1 hz2 rfl (by decide) rfl n (xs.map (Value.int .i64)) hS2.out h1.out ?c3 ?c4 ?_)
  case c3 => simp only [maxLen]; omega
  case c4 => omega
  intro a' c' w1 hS1
  replace hS1 := Lib.hid hS1
  go_wp2_with fail
  go_ret
  exact ⟨a', c', rfl, hS1.out⟩
set_option maxHeartbeats 8000000 in
set_option maxRecDepth 100000 in
theorem choice_walk (a : Option Addr) (len cap : Nat) (z : List Int) (ga : Option Addr) (gl gc : Nat) (gz : Nat → Nat → Int) (turn more : Int) (w : World) (hz : IsInts .i64 w a len cap z) (hg : IsRows 2 w ga gl gc gz) (hgn : ga = none → gc = 0) :
    Calls Try.prog 4 #[.slice a len cap, .slice ga gl gc, .int .i64 turn, .int .i64 more] w fun e w' => e = .returned (.bool true) ∧ Below w.heap.size w w' := by
  have hv := Lib.hid (agL_rl hg hgn)
  have hAl := agL_len gl gz
  clear hg hgn
  generalize agL gl gz = A at *
  by_cases hok : len ≤ 20 ∧ gl ≤ 20 ∧ 0 < len
  · obtain ⟨h1, h2, h3⟩ := hok
    obtain ⟨hzl, hlc, hcm, hcell⟩ := hz
    obtain ⟨b, off, rfl, hb, hcell⟩ := hcell h3
    have i1 : ¬ (20 : Int) < (len : Int) := by omega
    have i2 : ¬ (20 : Int) < (gl : Int) := by omega
    have i3 : ¬ (len : Int) = 0 := by omega
    have i4 : ((len : Int) == 0) = false := by simp; omega
    obtain ⟨k, hP⟩ := pick_nat turn (len : Int) (by omega) (by omega)
    have hkl := hP.lt
    have hrun := hP.run
    clear hP
    have hkn : k < len := by omega
    have hri : RI w (.slice (some ⟨b, off, none⟩) len cap) z := ⟨_, cap, by rw [hzl], fun _ => ⟨b, off, rfl, hb, fun j hj => (hcell j (by omega)).1⟩⟩
    have hcj : ∀ j u, (z.map (Value.int .i64))[j]? = some u → w.cell? ⟨b, off + j, none⟩ = some u := by
      intro j u hu
      rw [List.getElem?_map] at hu
      obtain ⟨x, hx, rfl⟩ := Option.map_eq_some_iff.1 hu
      have hj := (List.getElem?_eq_some_iff.1 hx).1
      have h := (hcell j (by omega)).1
      have e : z.getD j 0 = x := by rw [List.getD_eq_getElem?_getD, hx]; rfl
      rw [e] at h
      exact h
    have src : ∀ (W : World), Below w.heap.size w W → ∀ (s m c : Nat) (xs : List Int), xs.length = m → (∀ j u, (xs.map (Value.int .i64))[j]? = some u → (z.map (Value.int .i64))[s + j]? = some u) → SrcA W 1 (.slice (some ⟨b, off + s, none⟩) m c) m (xs.map (Value.int .i64)) := by
      intro W hW s m c xs hm hs
      refine .inr ⟨_, _, rfl, by rw [List.length_map, hm, Nat.mul_one], fun j u hu => ?_⟩
      rw [Addr.add_lit]
      have h := (hW.cell (p := ⟨b, off + (s + j), none⟩) hb).trans (hcj _ _ (hs j u hu))
      rw [← Nat.add_assoc] at h
      exact h
    have hsrc2 := Lib.hid (fun W hW => src W hW 0 k cap (z.take k) (by rw [List.length_take]; omega) (fun j u hu => by
      rw [Nat.zero_add]
      rw [List.map_take, List.getElem?_take] at hu
      split at hu
      · exact hu
      · cases hu))
    have hsrc1 := fun W hW => src W hW k (len - k) (cap - k) (z.drop k) (by rw [List.length_drop]; omega) (fun j u hu => by
      rw [List.map_drop, List.getElem?_drop] at hu
      exact hu)
    have hsrc0 := fun W hW => src W hW 0 len cap z hzl (fun j u hu => by rw [Nat.zero_add]; exact hu)
    have HO1 := Lib.hid (fun W hW => own_any (some ⟨b, off + k, none⟩) (len - k) (cap - k) (z.drop k) W (hsrc1 W hW) (by omega))
    have HO0 := Lib.hid (fun W hW => own_any (some ⟨b, off, none⟩) len cap z W (hsrc0 W hW) (by omega))
    have HC0 := Lib.hid (fun W hW => choose_any (.slice (some ⟨b, off, none⟩) len cap) (.slice ga gl gc) z A W (hri.below hW) (by omega) (hv.out.below hW) (by omega))
    have HCt := Lib.hid (fun u W h (hW : Below w.heap.size w W) => choose_any u (.slice ga gl gc) (z.drop k ++ z.take k) A W h (by simp; omega) (hv.out.below hW) (by omega))
    have HCm := Lib.hid (fun u W h (hW : Below w.heap.size w W) => choose_any u (.slice ga gl gc) (z ++ [more]) A W h (by simp; omega) (hv.out.below hW) (by omega))
    have HA := Lib.hid (fun t W (hW : Below w.heap.size w W) => age_any (.slice ga gl gc) A t W (hv.out.below hW) (by omega))
    rw [chL_turn A z k (by omega), show decide (0 < (z.drop k ++ z.take k).length) = true by simp; omega] at HCt
    rw [chL_more A z more (by omega), show decide (0 < (z ++ [more]).length) = true by simp] at HCm
    rw [show decide (0 < z.length) = true by simp; omega] at HC0
    replace HCt := Lib.hid HCt.out
    replace HCm := Lib.hid HCm.out
    replace HC0 := Lib.hid HC0.out
    obtain ⟨i0, hi0, hz0, hz1, hz2⟩ := info_parts info_int
    have h1c := Lib.hid ints_one
    have h1d : Hid (∀ y, ∀ u ∈ ([.int .i64 y] : List Value), u.oneCell' = true) := Lib.hid (by simp [Value.oneCell'])
    clear src hsrc1 hsrc0 hri hcj hcell hb
    generalize chL A z = c at *
    obtain ⟨R, hR⟩ : ∃ R, Hid ((if ageL A more > ageL A c ∨ ageL A more = ageL A c ∧ more > c then more else c) = R) := ⟨_, rfl⟩
    rw [hR.out] at HCm
    have HA1 := Lib.hid (HA.out c)
    have HA2 := Lib.hid (HA.out more)
    generalize ageL A c = x at HA1 hR
    generalize ageL A more = y at HA2 hR
    have k1 : k ≤ len := by omega
    have k2 : k ≤ cap := by omega
    have k3 : ¬ cap = k := by omega
    have k4 : ¬ cap - k = 0 := by omega
    have k5 : (k : Int) ≤ (len : Int) := by omega
    have k6 : (k : Int) ≤ (cap : Int) := by omega
    go_enter Try.func4, Try.ntmps4
    go_wp2_with fail
    refine (lives_any _).mono ?_
    rintro e w1 ⟨rfl, q⟩
    have hV := Lib.hid ((Sep.start w).below q)
    clear q
    go_wp2_with fail
    refine (hrun.out _).mono ?_
    rintro e w2 ⟨rfl, rfl⟩
    go_wp2_with fail
    refine (HC0.out _ hV.out.gold).mono ?_
    rintro e w3 ⟨rfl, q⟩
    replace hV := Lib.hid (hV.out.below q)
    clear q HC0 hrun
    go_wp2_with fail
    have hS := Lib.hid (show (fun W : World => Sep W [old w]) _ from hV.out.drew)
    refine hl_begin (fun W : World => Sep W [old w]) [(0, true), (1, true), (2, true), (4, true), (5, true), (6, true), (8, true), (3, false), (7, false), (9, false), (10, true), (11, true), (12, true), (13, true), (14, true)] (by kernel_rfl) (by kernel_rfl) (by kernel_rfl) rfl (fun _ _ _ _ _ h => h) hS.out ?_
    change HL _ _ _ _ _ _ (World.drew _)
    generalize World.drew _ = wd at *
    refine hl_take ?v1 rfl (by kernel_rfl) ?y1 ?z1
    case y1 => intro W hW; skip; replace hW := Lib.hid hW; go_simp; try rfl
    case z1 =>
    simp only [Act.put, List.setIfInBounds_toArray, List.set_cons_succ, List.set_cons_zero, List.getElem_toArray, List.getElem_cons_zero, List.getElem_cons_succ]
    refine hl_take ?v2 rfl (by kernel_rfl) ?y2 ?z2
    case y2 => intro W hW; skip; replace hW := Lib.hid hW; go_simp; try rfl
    case z2 =>
    simp only [Act.put, List.setIfInBounds_toArray, List.set_cons_succ, List.set_cons_zero, List.getElem_toArray, List.getElem_cons_zero, List.getElem_cons_succ]
    refine hl_take ?v3 rfl (by kernel_rfl) ?y3 ?z3
    case y3 => intro W hW; skip; replace hW := Lib.hid hW; go_simp; try rfl
    case z3 =>
    simp only [Act.put, List.setIfInBounds_toArray, List.set_cons_succ, List.set_cons_zero, List.getElem_toArray, List.getElem_cons_zero, List.getElem_cons_succ]
    refine hl_take ?v4 rfl (by kernel_rfl) ?y4 ?z4
    case y4 => intro W hW; skip; replace hW := Lib.hid hW; go_simp; try rfl
    case z4 =>
    simp only [Act.put, List.setIfInBounds_toArray, List.set_cons_succ, List.set_cons_zero, List.getElem_toArray, List.getElem_cons_zero, List.getElem_cons_succ]
    refine hl_take ?v5 rfl (by kernel_rfl) ?y5 ?z5
    case y5 => intro W hW; skip; replace hW := Lib.hid hW; go_simp; try rfl
    case z5 =>
    simp only [Act.put, List.setIfInBounds_toArray, List.set_cons_succ, List.set_cons_zero, List.getElem_toArray, List.getElem_cons_zero, List.getElem_cons_succ]
    refine hl_take ?v6 rfl (by kernel_rfl) ?y6 ?z6
    case y6 => intro W hW; skip; replace hW := Lib.hid hW; go_simp; try rfl
    case z6 =>
    simp only [Act.put, List.setIfInBounds_toArray, List.set_cons_succ, List.set_cons_zero, List.getElem_toArray, List.getElem_cons_zero, List.getElem_cons_succ]
    refine hl_take ?v7 rfl (by kernel_rfl) ?y7 ?z7
    case y7 => intro W hW; skip; replace hW := Lib.hid hW; go_simp; try rfl
    case z7 =>
    simp only [Act.put, List.setIfInBounds_toArray, List.set_cons_succ, List.set_cons_zero, List.getElem_toArray, List.getElem_cons_zero, List.getElem_cons_succ]
    refine hl_one rfl (by kernel_rfl) (fun K hK => ?_)
    go_simp
    refine (HO1.out wd hS.out.gold).mono ?_
    rintro e w4 ⟨oa, oc, rfl, q⟩
    have hT := Lib.hid (q.graft hS.out)
    replace hS := Lib.hid (show Sep w4 [old w] from hT.out.tail)
    clear q
    refine hK.out _ _ hS.out ?_
    clear hK K
    try simp only [Act.put, List.setIfInBounds_toArray, List.set_cons_succ, List.set_cons_zero, List.getElem_toArray, List.getElem_cons_zero, List.getElem_cons_succ]
    refine hl_one rfl (by kernel_rfl) (fun K hK => ?_)
    refine wp_append_sep hT.out (.tmp 47) (.tmp 50) 25 (by rfl) i0 _ 8 Try.underlying25 hi0 hz0 hz1 hz2 rfl (by decide) (by rfl) k ((z.take k).map (Value.int .i64)) (by exact (hsrc2.out w4 hS.out.gold)) (h1c.out _) ?c901 ?d901 ?_
    case c901 => simp only [maxLen]; omega
    case d901 => omega
    intro na nc w5 q
    replace hT := Lib.hid q
    replace hS := Lib.hid (show Sep w5 [old w] from q.tail)
    clear q
    refine hK.out _ _ hS.out ?_
    clear hK K
    try simp only [Act.put, List.setIfInBounds_toArray, List.set_cons_succ, List.set_cons_zero, List.getElem_toArray, List.getElem_cons_zero, List.getElem_cons_succ]
    refine hl_one rfl (by kernel_rfl) (fun K hK => ?_)
    go_simp
    refine (HCt.out _ w5 (by have h := hT.out; rw [← List.map_append, Nat.sub_add_cancel k1] at h; exact h.vec_ri) hS.out.gold).mono ?_
    rintro e w6 ⟨rfl, q⟩
    replace hS := Lib.hid (show Sep w6 [old w] from hS.out.below q)
    clear q hT
    refine hK.out _ _ hS.out ?_
    clear hK K
    try simp only [Act.put, List.setIfInBounds_toArray, List.set_cons_succ, List.set_cons_zero, List.getElem_toArray, List.getElem_cons_zero, List.getElem_cons_succ]
    refine hl_take ?v8 rfl (by kernel_rfl) ?y8 ?z8
    case y8 => intro W hW; skip; replace hW := Lib.hid hW; go_simp; try rfl
    case z8 =>
    simp only [Act.put, List.setIfInBounds_toArray, List.set_cons_succ, List.set_cons_zero, List.getElem_toArray, List.getElem_cons_zero, List.getElem_cons_succ]
    refine hl_take ?v9 rfl (by kernel_rfl) ?y9 ?z9
    case y9 => intro W hW; skip; replace hW := Lib.hid hW; go_simp; try rfl
    case z9 =>
    simp only [Act.put, List.setIfInBounds_toArray, List.set_cons_succ, List.set_cons_zero, List.getElem_toArray, List.getElem_cons_zero, List.getElem_cons_succ]
    refine hl_take ?v10 rfl (by kernel_rfl) ?y10 ?z10
    case y10 => intro W hW; skip; replace hW := Lib.hid hW; go_simp; try rfl
    case z10 =>
    simp only [Act.put, List.setIfInBounds_toArray, List.set_cons_succ, List.set_cons_zero, List.getElem_toArray, List.getElem_cons_zero, List.getElem_cons_succ]
    refine hl_take ?v11 rfl (by kernel_rfl) ?y11 ?z11
    case y11 => intro W hW; skip; replace hW := Lib.hid hW; go_simp; try rfl
    case z11 =>
    simp only [Act.put, List.setIfInBounds_toArray, List.set_cons_succ, List.set_cons_zero, List.getElem_toArray, List.getElem_cons_zero, List.getElem_cons_succ]
    refine hl_take ?v12 rfl (by kernel_rfl) ?y12 ?z12
    case y12 => intro W hW; skip; replace hW := Lib.hid hW; go_simp; try rfl
    case z12 =>
    simp only [Act.put, List.setIfInBounds_toArray, List.set_cons_succ, List.set_cons_zero, List.getElem_toArray, List.getElem_cons_zero, List.getElem_cons_succ]
    refine hl_done ?_
    clear hV
    replace hV := hS
    clear hS
    go_wp2_with fail
    refine (HO0.out _ hV.out.gold).mono ?_
    rintro e w7 ⟨oa, oc, rfl, q⟩
    replace hV := Lib.hid (q.graft hV.out)
    clear q HO0 HO1 HCt
    go_wp2_with (at_builtin; (refine wpList_append_sep (hV.out.allocG _) rfl _ _ 25 rfl i0 _ 8 Try.underlying25 hi0 hz0 hz1 hz2 rfl (by decide) rfl 1 [.int .i64 more] (SrcA.one _ _ _ _) (h1d.out _) (by simp only [maxLen]; omega) (by omega) ?_; intro al' cl' w8 q2; replace q2 := Lib.hid q2))
    refine (HCm.out _ w8 (by have h := q2.out; rw [show z.map (Value.int .i64) ++ [.int .i64 more] = (z ++ [more]).map (Value.int .i64) by simp] at h; exact h.vec_ri) q2.out.tail.gold).mono ?_
    rintro e w9 ⟨rfl, q⟩
    replace hV := Lib.hid (q2.out.tail.below q)
    clear q q2 HCm
    go_wp2_with fail
    refine (HA1.out _ hV.out.gold).mono ?_
    rintro e w10 ⟨rfl, q⟩
    replace hV := Lib.hid (hV.out.below q)
    clear q HA1
    go_wp2_with fail
    refine (HA2.out _ hV.out.gold).mono ?_
    rintro e w11 ⟨rfl, q⟩
    replace hV := Lib.hid (hV.out.below q)
    clear q HA2 HA
    by_cases c1 : x < y
    · have hRm := hR.out
      rw [if_pos (.inl c1)] at hRm
      subst hRm
      clear hR
      go_wp2_with fail
      go_ret
      exact ⟨rfl, hV.out.gold⟩
    · by_cases c2 : y = x
      · subst c2
        by_cases c3 : c < more
        · have hRm := hR.out
          rw [if_pos (.inr ⟨rfl, c3⟩)] at hRm
          subst hRm
          clear hR
          go_wp2_with fail
          go_ret
          exact ⟨rfl, hV.out.gold⟩
        · have hRm := hR.out
          rw [if_neg (by omega)] at hRm
          subst hRm
          clear hR
          go_wp2_with fail
          go_ret
          exact ⟨rfl, hV.out.gold⟩
      · have c4 : (y == x) = false := by simpa using c2
        have hRm := hR.out
        rw [if_neg (by omega)] at hRm
        subst hRm
        clear hR
        go_wp2_with fail
        go_ret
        exact ⟨rfl, hV.out.gold⟩
  · clear hz hv
    by_cases h1 : len ≤ 20
    · have i1 : ¬ (20 : Int) < (len : Int) := by omega
      by_cases h2 : gl ≤ 20
      · have i2 : ¬ (20 : Int) < (gl : Int) := by omega
        obtain rfl : len = 0 := by omega
        go_enter Try.func4, Try.ntmps4
        go_wp2_with fail
        refine (lives_any _).mono ?_
        rintro e w1 ⟨rfl, q⟩
        have hb := Lib.hid q
        clear q
        go_wp2_with fail
        go_ret
        exact ⟨rfl, hb.out⟩
      · have i2 : (20 : Int) < (gl : Int) := by omega
        go_enter Try.func4, Try.ntmps4
        go_wp2_with fail
        refine (lives_any _).mono ?_
        rintro e w1 ⟨rfl, q⟩
        have hb := Lib.hid q
        clear q
        go_wp2_with fail
        go_ret
        exact ⟨rfl, hb.out⟩
    · have i1 : (20 : Int) < (len : Int) := by omega
      go_enter Try.func4, Try.ntmps4
      go_wp2_with fail
      refine (lives_any _).mono ?_
      rintro e w1 ⟨rfl, q⟩
      have hb := Lib.hid q
      clear q
      go_wp2_with fail
      go_ret
      exact ⟨rfl, hb.out⟩
end Go.Proofs.Ythbamhfnemdebaa
