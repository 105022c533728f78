/-
  The walk of WaitsReach. No condition beside an argument that can be read.
-/
import Derived.Test.YtcnkmhfcgkbhbaaWLv
namespace Go.Proofs.Ytcnkmhfcgkbhbaa
open Go.RowKit
/-- Edges as they come in. -/
def edL (len : Nat) (z : Nat → Nat → Int) : List Ed := (List.range len).map fun k => ⟨z k 0, z k 1⟩
theorem edL_len (len : Nat) (z : Nat → Nat → Int) : (edL len z).length = len := by simp [edL]
theorem edL_rl {w : World} {a : Option Addr} {len cap : Nat} {z : Nat → Nat → Int} (h : IsRows 2 w a len cap z) (hn : a = none → cap = 0) : RL w (.slice a len cap) 2 (edL len z).length ((edL len z).flatMap Ed.cells) := by
  refine ⟨flat_len Ed.cells 2 ed_len _, a, cap, by rw [edL_len], by rw [edL_len]; exact h.1, hn, fun h0 => ?_⟩
  rw [edL_len] at h0
  obtain ⟨b, off, rfl, hb, hz⟩ := h.2.2 h0
  refine ⟨b, off, rfl, hb, fun j u hj => ?_⟩
  have hj2 : j < len * 2 := by
    have := (List.getElem?_eq_some_iff.1 hj).1
    rw [flat_len Ed.cells 2 ed_len, edL_len] at this
    exact this
  have hk : (edL len z)[j / 2]? = some ⟨z (j / 2) 0, z (j / 2) 1⟩ := by
    unfold edL
    rw [List.getElem?_map, List.getElem?_range (by omega)]
    rfl
  have hf := flat_at Ed.cells 2 ed_len (edL len z) (j / 2) (j % 2) _ hk (by omega)
  rw [show j / 2 * 2 + j % 2 = j by omega, hj] at hf
  have hc := (hz (j / 2) (by omega) (j % 2) (by omega)).1
  rw [show off + j / 2 * 2 + j % 2 = off + j by omega] at hc
  rw [hc]
  have h2 : j % 2 = 0 ∨ j % 2 = 1 := by omega
  rcases h2 with h2 | h2
  · rw [h2] at hf ⊢; exact hf.symm
  · rw [h2] at hf ⊢; exact hf.symm
/-- The first few of some edges. -/
theorem RL.take {w : World} {a : Option Addr} {c k : Nat} {L : List Ed} (h : RL w (.slice a L.length c) 2 L.length (L.flatMap Ed.cells)) (hk : k ≤ L.length) : RL w (.slice a k c) 2 (L.take k).length ((L.take k).flatMap Ed.cells) := by
  have hl : (L.take k).length = k := by rw [List.length_take]; omega
  obtain ⟨_, a', c', hv, hc, hn, hz⟩ := h
  injection hv with e1 _ e3
  subst e1 e3
  refine ⟨flat_len Ed.cells 2 ed_len _, a, c, by rw [hl], by omega, hn, fun h0 => ?_⟩
  obtain ⟨b, off, ha, hb, hz⟩ := hz (by omega)
  refine ⟨b, off, ha, hb, fun j u hj => hz j u ?_⟩
  rw [← flat_take Ed.cells 2 ed_len L k hk, List.getElem?_take] at hj
  split at hj
  · exact hj
  · cases hj
theorem Sep.vec_ptr {w : World} {e : TypeId} {sz n c : Nat} {a : Option Addr} {cs : List Value} {rs : List Res} (h : Sep w (vec e sz (.slice a n c) n cs :: rs)) (h0 : 0 < n) : ∃ g, a = some ⟨g, 0, none⟩ := by
  rcases h.gvec.2 with ⟨_, h1⟩ | ⟨g, cap, cur, hv, _⟩
  · omega
  · injection hv with e1 _ _
    exact ⟨g, e1⟩
theorem int_at {xs : List Int} {i : Nat} (h : i < xs.length) : (xs.map (Value.int .i64))[i]? = some (.int .i64 (xs.getD i 0)) := by
  rw [List.getElem?_map, List.getElem?_eq_getElem h]
  simp [List.getD, h]
set_option maxHeartbeats 20000000 in
set_option maxRecDepth 100000 in
theorem reach_walk (a : Option Addr) (len cap : Nat) (z : Nat → Nat → Int) (fr cut x : Int) (w : World) (hv0 : IsRows 2 w a len cap z) (hna : a = none → cap = 0) :
    Calls Try.prog 5 #[.slice a len cap, .int .i64 fr, .int .i64 cut, .int .i64 x] w fun e w' => e = .returned (.bool true) ∧ Below w.heap.size w w' := by
  have hv := Lib.hid (edL_rl hv0 hna)
  have hlen := edL_len len z
  have hlc := hv0.1
  clear hv0 hna
  generalize edL len z = L at *
  by_cases h30 : len ≤ 30
  · have i30 : ¬ ((30 : Int) < (len : Int)) := by omega
    have hl30 : L.length ≤ 1000 := by omega
    have HR := Lib.hid (fun q W (h : RL W (.slice a len cap) 2 L.length (L.flatMap Ed.cells)) => reachL_any (.slice a len cap) L q W h hl30)
    have hrl := Lib.hid (fun q => Nat.le_trans (rcL_le L q) hl30)
    obtain ⟨k, hP⟩ := pick_nat cut ((len : Int) + 1) (by omega) (by omega)
    have hkl := hP.lt
    have hkc : k ≤ cap := by omega
    have hrun := hP.run
    have HF := Lib.hid (fun q W (h : RL W (.slice a k cap) 2 (L.take k).length ((L.take k).flatMap Ed.cells)) => reachL_any (.slice a k cap) (L.take k) q W h (by rw [List.length_take]; omega))
    have htk := Lib.hid (show RL w (.slice a k cap) 2 (L.take k).length ((L.take k).flatMap Ed.cells) from RL.take (by rw [hlen]; have := hv.out; rw [hlen] at this; exact this) (by omega))
    have HW := Lib.hid (fun W h => without_any (.slice a len cap) L x W h hl30)
    clear hP
    go_enter Try.func5, Try.ntmps5
    go_wp2_with fail
    refine (lives_any _).mono ?_
    rintro e w1 ⟨rfl, q⟩
    have hb := Lib.hid q
    clear q
    go_wp2_with fail
    refine (HR.out fr _ (hv.out.below hb.out)).mono ?_
    rintro e w2 ⟨aa, ac, rfl, q⟩
    have hV := Lib.hid (q.graft ((Sep.start w).below hb.out))
    clear q hb
    obtain ⟨xs, hxs⟩ : ∃ xs, Hid (rcL L fr = xs) := ⟨_, rfl⟩
    rw [hxs.out] at hV ⊢
    obtain ⟨n, hnx⟩ : ∃ n, Hid (xs.length = n) := ⟨_, rfl⟩
    rw [hnx.out] at hV ⊢
    have hxl := Lib.hid (show n ≤ 1000 by rw [← hnx.out, ← hxs.out]; exact hrl.out fr)
    have hris := Lib.hid (fun i (h0 : 0 < i) (hi : i < n) => show xs.getD (i - 1) 0 < xs.getD i 0 by rw [← hxs.out]; exact rcL_rise L fr i h0 (by rw [hxs.out, hnx.out]; exact hi))
    have hsom := Lib.hid (fun y (hy : y ∈ xs) => show someI xs (rcL L y) = true by rw [someI_iff, ← hxs.out]; exact rcL_some L fr y (by rw [hxs.out]; exact hy))
    go_wp2_with fail
    go_loopg [10] n (fun gm s10 W => ∃ i : Nat, i ≤ n ∧ gm = n - i ∧ s10 = .int .i64 i ∧ Hid (Sep W [vec 3 1 (.slice aa n ac) n (xs.map (Value.int .i64)), old w]))
    case atStart => exact ⟨0, Nat.zero_le _, rfl, rfl, hV⟩
    case round =>
      clear hV
      obtain ⟨i, hi, hgm, rfl, hV⟩ := hrel
      by_cases hlt : i < n
      · obtain ⟨g, rfl⟩ := hV.out.vec_ptr (by omega)
        have hz1 := Lib.hid (int_at (xs := xs) (i := i) (by rw [hnx.out]; exact hlt))
        have hso := Lib.hid (hsom.out (xs.getD i 0) (by
          have h : i < xs.length := by rw [hnx.out]; exact hlt
          simp [List.getD, h]))
        have i1 : (0 : Int) ≤ (i : Int) := by omega
        have i2 : (i : Int) < (n : Int) := by omega
        cases i with
        | zero =>
          generalize xs.getD 0 0 = x at *
          go_wp2_with fail
          have hS := Lib.hid (show (fun W : World => Sep W [vec 3 1 (.slice (some ⟨g, 0, none⟩) n ac) n (xs.map (Value.int .i64)), old w]) _ from hV.out.drew)
          refine hl_begin (fun W : World => Sep W [vec 3 1 (.slice (some ⟨g, 0, none⟩) n ac) n (xs.map (Value.int .i64)), old w]) [(0, true), (1, true), (2, true), (3, true), (4, true), (5, true), (6, true), (7, true), (8, true), (9, true), (10, true), (11, true), (12, true), (13, true), (14, true), (15, true), (16, true), (17, true), (18, true), (19, true), (20, true), (21, false), (22, false), (23, true), (24, true)] (by kernel_rfl) (by kernel_rfl) (by kernel_rfl) rfl (fun _ _ _ _ _ h => h) hS.out ?_
          change HL _ _ _ _ _ _ (World.drew _)
          generalize World.drew _ = wd at *
          refine hl_take ?v1 rfl (by kernel_rfl) ?y1 ?z1
          case y1 => intro W hW; skip; replace hW := Lib.hid hW; go_simp; try rfl
          case z1 =>
          simp only [Act.put, List.setIfInBounds_toArray, List.set_cons_succ, List.set_cons_zero, List.getElem_toArray, List.getElem_cons_zero, List.getElem_cons_succ]
          refine hl_take ?v2 rfl (by kernel_rfl) ?y2 ?z2
          case y2 => intro W hW; skip; replace hW := Lib.hid hW; go_simp; try rfl
          case z2 =>
          simp only [Act.put, List.setIfInBounds_toArray, List.set_cons_succ, List.set_cons_zero, List.getElem_toArray, List.getElem_cons_zero, List.getElem_cons_succ]
          refine hl_take ?v3 rfl (by kernel_rfl) ?y3 ?z3
          case y3 => intro W hW; skip; replace hW := Lib.hid hW; go_simp; try rfl
          case z3 =>
          simp only [Act.put, List.setIfInBounds_toArray, List.set_cons_succ, List.set_cons_zero, List.getElem_toArray, List.getElem_cons_zero, List.getElem_cons_succ]
          refine hl_skip rfl (by kernel_rfl) ?_
          simp only [Act.put, List.setIfInBounds_toArray, List.set_cons_succ, List.set_cons_zero, List.getElem_toArray, List.getElem_cons_zero, List.getElem_cons_succ]
          refine hl_skip rfl (by kernel_rfl) ?_
          simp only [Act.put, List.setIfInBounds_toArray, List.set_cons_succ, List.set_cons_zero, List.getElem_toArray, List.getElem_cons_zero, List.getElem_cons_succ]
          refine hl_skip rfl (by kernel_rfl) ?_
          simp only [Act.put, List.setIfInBounds_toArray, List.set_cons_succ, List.set_cons_zero, List.getElem_toArray, List.getElem_cons_zero, List.getElem_cons_succ]
          refine hl_skip rfl (by kernel_rfl) ?_
          simp only [Act.put, List.setIfInBounds_toArray, List.set_cons_succ, List.set_cons_zero, List.getElem_toArray, List.getElem_cons_zero, List.getElem_cons_succ]
          refine hl_skip rfl (by kernel_rfl) ?_
          simp only [Act.put, List.setIfInBounds_toArray, List.set_cons_succ, List.set_cons_zero, List.getElem_toArray, List.getElem_cons_zero, List.getElem_cons_succ]
          refine hl_skip rfl (by kernel_rfl) ?_
          simp only [Act.put, List.setIfInBounds_toArray, List.set_cons_succ, List.set_cons_zero, List.getElem_toArray, List.getElem_cons_zero, List.getElem_cons_succ]
          refine hl_skip rfl (by kernel_rfl) ?_
          simp only [Act.put, List.setIfInBounds_toArray, List.set_cons_succ, List.set_cons_zero, List.getElem_toArray, List.getElem_cons_zero, List.getElem_cons_succ]
          refine hl_skip rfl (by kernel_rfl) ?_
          simp only [Act.put, List.setIfInBounds_toArray, List.set_cons_succ, List.set_cons_zero, List.getElem_toArray, List.getElem_cons_zero, List.getElem_cons_succ]
          refine hl_skip rfl (by kernel_rfl) ?_
          simp only [Act.put, List.setIfInBounds_toArray, List.set_cons_succ, List.set_cons_zero, List.getElem_toArray, List.getElem_cons_zero, List.getElem_cons_succ]
          refine hl_skip rfl (by kernel_rfl) ?_
          simp only [Act.put, List.setIfInBounds_toArray, List.set_cons_succ, List.set_cons_zero, List.getElem_toArray, List.getElem_cons_zero, List.getElem_cons_succ]
          refine hl_take ?v4 rfl (by kernel_rfl) ?y4 ?z4
          case y4 => intro W hW; skip; replace hW := Lib.hid hW; go_simp; try rfl
          case z4 =>
          simp only [Act.put, List.setIfInBounds_toArray, List.set_cons_succ, List.set_cons_zero, List.getElem_toArray, List.getElem_cons_zero, List.getElem_cons_succ]
          refine hl_take ?v5 rfl (by kernel_rfl) ?y5 ?z5
          case y5 => intro W hW; skip; replace hW := Lib.hid hW; go_simp; try rfl
          case z5 =>
          simp only [Act.put, List.setIfInBounds_toArray, List.set_cons_succ, List.set_cons_zero, List.getElem_toArray, List.getElem_cons_zero, List.getElem_cons_succ]
          refine hl_take ?v6 rfl (by kernel_rfl) ?y6 ?z6
          case y6 => intro W hW; skip; replace hW := Lib.hid hW; go_simp; try rfl
          case z6 =>
          simp only [Act.put, List.setIfInBounds_toArray, List.set_cons_succ, List.set_cons_zero, List.getElem_toArray, List.getElem_cons_zero, List.getElem_cons_succ]
          refine hl_take ?v7 rfl (by kernel_rfl) ?y7 ?z7
          case y7 => intro W hW; skip; replace hW := Lib.hid hW; go_simp; try rfl
          case z7 =>
          simp only [Act.put, List.setIfInBounds_toArray, List.set_cons_succ, List.set_cons_zero, List.getElem_toArray, List.getElem_cons_zero, List.getElem_cons_succ]
          refine hl_take ?v8 rfl (by kernel_rfl) ?y8 ?z8
          case y8 => intro W hW; skip; replace hW := Lib.hid hW; go_simp; try rfl
          case z8 =>
          simp only [Act.put, List.setIfInBounds_toArray, List.set_cons_succ, List.set_cons_zero, List.getElem_toArray, List.getElem_cons_zero, List.getElem_cons_succ]
          refine hl_take ?v9 rfl (by kernel_rfl) ?y9 ?z9
          case y9 => intro W hW; skip; replace hW := Lib.hid hW; go_simp; try rfl
          case z9 =>
          simp only [Act.put, List.setIfInBounds_toArray, List.set_cons_succ, List.set_cons_zero, List.getElem_toArray, List.getElem_cons_zero, List.getElem_cons_succ]
          refine hl_take ?v10 rfl (by kernel_rfl) ?y10 ?z10
          case y10 => intro W hW; skip; replace hW := Lib.hid hW; go_simp; try rfl
          case z10 =>
          simp only [Act.put, List.setIfInBounds_toArray, List.set_cons_succ, List.set_cons_zero, List.getElem_toArray, List.getElem_cons_zero, List.getElem_cons_succ]
          refine hl_take ?v11 rfl (by kernel_rfl) ?y11 ?z11
          case y11 => intro W hW; change Sep W _ at hW; have z1 := (hW.vec_cell hz1.out).1; have hW2 := hW; replace hW := Lib.hid hW; go_simp; try rfl
          case z11 =>
          simp only [Act.put, List.setIfInBounds_toArray, List.set_cons_succ, List.set_cons_zero, List.getElem_toArray, List.getElem_cons_zero, List.getElem_cons_succ]
          refine hl_one rfl (by kernel_rfl) (fun K hK => ?_)
          go_simp
          refine (HR.out x wd (hv.out.below hS.out.tail.gold)).mono ?_
          rintro e w2 ⟨a2, c2, rfl, q⟩
          have hT := Lib.hid q.vec_ri
          replace hS := Lib.hid (show Sep w2 [vec 3 1 (.slice (some ⟨g, 0, none⟩) n ac) n (xs.map (Value.int .i64)), old w] from hS.out.below q.tail.gold)
          clear q
          refine hK.out _ _ hS.out ?_
          clear hK K
          try simp only [Act.put, List.setIfInBounds_toArray, List.set_cons_succ, List.set_cons_zero, List.getElem_toArray, List.getElem_cons_zero, List.getElem_cons_succ]
          refine hl_one rfl (by kernel_rfl) (fun K hK => ?_)
          go_simp
          have hri := Lib.hid (show RI w2 (.slice (some ⟨g, 0, none⟩) n ac) xs by have h := (show Sep w2 (vec 3 1 (.slice (some ⟨g, 0, none⟩) n ac) n (xs.map (Value.int .i64)) :: _) from hS.out); exact h.vec_ri)
          refine (some_any _ _ xs (rcL L x) w2 (by have := hxl.out; have := hnx.out; omega) (by have := hrl.out x; omega) hri.out hT.out).mono ?_
          rintro e w3 ⟨rfl, m, rfl⟩
          rw [hso.out]
          replace hS := Lib.hid (show Sep (w2.drewN m) [vec 3 1 (.slice (some ⟨g, 0, none⟩) n ac) n (xs.map (Value.int .i64)), old w] from hS.out.drewN m)
          clear hT
          refine hK.out _ _ hS.out ?_
          clear hK K
          try simp only [Act.put, List.setIfInBounds_toArray, List.set_cons_succ, List.set_cons_zero, List.getElem_toArray, List.getElem_cons_zero, List.getElem_cons_succ]
          refine hl_take ?v12 rfl (by kernel_rfl) ?y12 ?z12
          case y12 => intro W hW; skip; replace hW := Lib.hid hW; go_simp; try rfl
          case z12 =>
          simp only [Act.put, List.setIfInBounds_toArray, List.set_cons_succ, List.set_cons_zero, List.getElem_toArray, List.getElem_cons_zero, List.getElem_cons_succ]
          refine hl_take ?v13 rfl (by kernel_rfl) ?y13 ?z13
          case y13 => intro W hW; skip; replace hW := Lib.hid hW; go_simp; try rfl
          case z13 =>
          simp only [Act.put, List.setIfInBounds_toArray, List.set_cons_succ, List.set_cons_zero, List.getElem_toArray, List.getElem_cons_zero, List.getElem_cons_succ]
          refine hl_done ?_
          clear hV
          replace hV := hS
          clear hS
          go_wp2_with fail
          go_roundg (n - 1)
          case measure => omega
          case rel => exact ⟨1, by omega, rfl, by go_num, hV⟩
        | succ j =>
          have hz0 := Lib.hid (int_at (xs := xs) (i := j) (by rw [hnx.out]; omega))
          have hlt2 := hris.out (j + 1) (by omega) hlt
          rw [show j + 1 - 1 = j by omega] at hlt2
          generalize xs.getD j 0 = y at *
          generalize xs.getD (j + 1) 0 = x at *
          have hge : decide (x ≤ y) = false := by simp; omega
          have j1 : (0 : Int) ≤ (j : Int) := by omega
          have j2 : (j : Int) < (n : Int) := by omega
          go_wp2_with fail
          have wj : IntKind.i64.wrap (j : Int) = (j : Int) := by
            have := hxl.out
            apply IntWalk.i64_in
            omega
          have hS := Lib.hid (show (fun W : World => Sep W [vec 3 1 (.slice (some ⟨g, 0, none⟩) n ac) n (xs.map (Value.int .i64)), old w]) _ from hV.out.drew)
          refine hl_begin (fun W : World => Sep W [vec 3 1 (.slice (some ⟨g, 0, none⟩) n ac) n (xs.map (Value.int .i64)), old w]) [(0, true), (1, true), (2, true), (3, true), (4, true), (5, true), (6, true), (7, true), (8, true), (9, true), (10, true), (11, true), (12, true), (13, true), (14, true), (15, true), (16, true), (17, true), (18, true), (19, true), (20, true), (21, false), (22, false), (23, true), (24, true)] (by kernel_rfl) (by kernel_rfl) (by kernel_rfl) rfl (fun _ _ _ _ _ h => h) hS.out ?_
          change HL _ _ _ _ _ _ (World.drew _)
          generalize World.drew _ = wd at *
          refine hl_take ?v14 rfl (by kernel_rfl) ?y14 ?z14
          case y14 => intro W hW; skip; replace hW := Lib.hid hW; go_simp; try rfl
          case z14 =>
          simp only [Act.put, List.setIfInBounds_toArray, List.set_cons_succ, List.set_cons_zero, List.getElem_toArray, List.getElem_cons_zero, List.getElem_cons_succ]
          refine hl_take ?v15 rfl (by kernel_rfl) ?y15 ?z15
          case y15 => intro W hW; skip; replace hW := Lib.hid hW; go_simp; try rfl
          case z15 =>
          simp only [Act.put, List.setIfInBounds_toArray, List.set_cons_succ, List.set_cons_zero, List.getElem_toArray, List.getElem_cons_zero, List.getElem_cons_succ]
          refine hl_take ?v16 rfl (by kernel_rfl) ?y16 ?z16
          case y16 => intro W hW; skip; replace hW := Lib.hid hW; go_simp; try rfl
          case z16 =>
          simp only [Act.put, List.setIfInBounds_toArray, List.set_cons_succ, List.set_cons_zero, List.getElem_toArray, List.getElem_cons_zero, List.getElem_cons_succ]
          refine hl_take ?v17 rfl (by kernel_rfl) ?y17 ?z17
          case y17 => intro W hW; skip; replace hW := Lib.hid hW; go_simp; try rfl
          case z17 =>
          simp only [Act.put, List.setIfInBounds_toArray, List.set_cons_succ, List.set_cons_zero, List.getElem_toArray, List.getElem_cons_zero, List.getElem_cons_succ]
          refine hl_take ?v18 rfl (by kernel_rfl) ?y18 ?z18
          case y18 => intro W hW; skip; replace hW := Lib.hid hW; go_simp; try rfl
          case z18 =>
          simp only [Act.put, List.setIfInBounds_toArray, List.set_cons_succ, List.set_cons_zero, List.getElem_toArray, List.getElem_cons_zero, List.getElem_cons_succ]
          refine hl_take ?v19 rfl (by kernel_rfl) ?y19 ?z19
          case y19 => intro W hW; skip; replace hW := Lib.hid hW; go_simp; try rfl
          case z19 =>
          simp only [Act.put, List.setIfInBounds_toArray, List.set_cons_succ, List.set_cons_zero, List.getElem_toArray, List.getElem_cons_zero, List.getElem_cons_succ]
          refine hl_take ?v20 rfl (by kernel_rfl) ?y20 ?z20
          case y20 => intro W hW; skip; replace hW := Lib.hid hW; go_simp; try rfl
          case z20 =>
          simp only [Act.put, List.setIfInBounds_toArray, List.set_cons_succ, List.set_cons_zero, List.getElem_toArray, List.getElem_cons_zero, List.getElem_cons_succ]
          refine hl_take ?v21 rfl (by kernel_rfl) ?y21 ?z21
          case y21 => intro W hW; change Sep W _ at hW; have z1 := (hW.vec_cell hz1.out).1; have hW2 := hW; have z0 := (hW.vec_cell hz0.out).1; replace hW := Lib.hid hW; go_simp; try rfl
          case z21 =>
          simp only [Act.put, List.setIfInBounds_toArray, List.set_cons_succ, List.set_cons_zero, List.getElem_toArray, List.getElem_cons_zero, List.getElem_cons_succ]
          refine hl_take ?v22 rfl (by kernel_rfl) ?y22 ?z22
          case y22 => intro W hW; skip; replace hW := Lib.hid hW; go_simp; try rfl
          case z22 =>
          simp only [Act.put, List.setIfInBounds_toArray, List.set_cons_succ, List.set_cons_zero, List.getElem_toArray, List.getElem_cons_zero, List.getElem_cons_succ]
          refine hl_take ?v23 rfl (by kernel_rfl) ?y23 ?z23
          case y23 => intro W hW; skip; replace hW := Lib.hid hW; go_simp; try rfl
          case z23 =>
          simp only [Act.put, List.setIfInBounds_toArray, List.set_cons_succ, List.set_cons_zero, List.getElem_toArray, List.getElem_cons_zero, List.getElem_cons_succ]
          refine hl_take ?v24 rfl (by kernel_rfl) ?y24 ?z24
          case y24 => intro W hW; skip; replace hW := Lib.hid hW; go_simp; try rfl
          case z24 =>
          simp only [Act.put, List.setIfInBounds_toArray, List.set_cons_succ, List.set_cons_zero, List.getElem_toArray, List.getElem_cons_zero, List.getElem_cons_succ]
          refine hl_take ?v25 rfl (by kernel_rfl) ?y25 ?z25
          case y25 => intro W hW; change Sep W _ at hW; have z1 := (hW.vec_cell hz1.out).1; have hW2 := hW; have z0 := (hW.vec_cell hz0.out).1; replace hW := Lib.hid hW; go_simp; try rfl
          case z25 =>
          simp only [Act.put, List.setIfInBounds_toArray, List.set_cons_succ, List.set_cons_zero, List.getElem_toArray, List.getElem_cons_zero, List.getElem_cons_succ]
          refine hl_take ?v26 rfl (by kernel_rfl) ?y26 ?z26
          case y26 => intro W hW; skip; replace hW := Lib.hid hW; go_simp; try rfl
          case z26 =>
          simp only [Act.put, List.setIfInBounds_toArray, List.set_cons_succ, List.set_cons_zero, List.getElem_toArray, List.getElem_cons_zero, List.getElem_cons_succ]
          refine hl_take ?v27 rfl (by kernel_rfl) ?y27 ?z27
          case y27 => intro W hW; skip; replace hW := Lib.hid hW; go_simp; try rfl
          case z27 =>
          simp only [Act.put, List.setIfInBounds_toArray, List.set_cons_succ, List.set_cons_zero, List.getElem_toArray, List.getElem_cons_zero, List.getElem_cons_succ]
          refine hl_take ?v28 rfl (by kernel_rfl) ?y28 ?z28
          case y28 => intro W hW; skip; replace hW := Lib.hid hW; go_simp; try rfl
          case z28 =>
          simp only [Act.put, List.setIfInBounds_toArray, List.set_cons_succ, List.set_cons_zero, List.getElem_toArray, List.getElem_cons_zero, List.getElem_cons_succ]
          refine hl_take ?v29 rfl (by kernel_rfl) ?y29 ?z29
          case y29 => intro W hW; skip; replace hW := Lib.hid hW; go_simp; try rfl
          case z29 =>
          simp only [Act.put, List.setIfInBounds_toArray, List.set_cons_succ, List.set_cons_zero, List.getElem_toArray, List.getElem_cons_zero, List.getElem_cons_succ]
          refine hl_take ?v30 rfl (by kernel_rfl) ?y30 ?z30
          case y30 => intro W hW; skip; replace hW := Lib.hid hW; go_simp; try rfl
          case z30 =>
          simp only [Act.put, List.setIfInBounds_toArray, List.set_cons_succ, List.set_cons_zero, List.getElem_toArray, List.getElem_cons_zero, List.getElem_cons_succ]
          refine hl_take ?v31 rfl (by kernel_rfl) ?y31 ?z31
          case y31 => intro W hW; skip; replace hW := Lib.hid hW; go_simp; try rfl
          case z31 =>
          simp only [Act.put, List.setIfInBounds_toArray, List.set_cons_succ, List.set_cons_zero, List.getElem_toArray, List.getElem_cons_zero, List.getElem_cons_succ]
          refine hl_take ?v32 rfl (by kernel_rfl) ?y32 ?z32
          case y32 => intro W hW; skip; replace hW := Lib.hid hW; go_simp; try rfl
          case z32 =>
          simp only [Act.put, List.setIfInBounds_toArray, List.set_cons_succ, List.set_cons_zero, List.getElem_toArray, List.getElem_cons_zero, List.getElem_cons_succ]
          refine hl_take ?v33 rfl (by kernel_rfl) ?y33 ?z33
          case y33 => intro W hW; skip; replace hW := Lib.hid hW; go_simp; try rfl
          case z33 =>
          simp only [Act.put, List.setIfInBounds_toArray, List.set_cons_succ, List.set_cons_zero, List.getElem_toArray, List.getElem_cons_zero, List.getElem_cons_succ]
          refine hl_take ?v34 rfl (by kernel_rfl) ?y34 ?z34
          case y34 => intro W hW; change Sep W _ at hW; have z1 := (hW.vec_cell hz1.out).1; have hW2 := hW; have z0 := (hW.vec_cell hz0.out).1; replace hW := Lib.hid hW; go_simp; try rfl
          case z34 =>
          simp only [Act.put, List.setIfInBounds_toArray, List.set_cons_succ, List.set_cons_zero, List.getElem_toArray, List.getElem_cons_zero, List.getElem_cons_succ]
          refine hl_one rfl (by kernel_rfl) (fun K hK => ?_)
          go_simp
          refine (HR.out x wd (hv.out.below hS.out.tail.gold)).mono ?_
          rintro e w2 ⟨a2, c2, rfl, q⟩
          have hT := Lib.hid q.vec_ri
          replace hS := Lib.hid (show Sep w2 [vec 3 1 (.slice (some ⟨g, 0, none⟩) n ac) n (xs.map (Value.int .i64)), old w] from hS.out.below q.tail.gold)
          clear q
          refine hK.out _ _ hS.out ?_
          clear hK K
          try simp only [Act.put, List.setIfInBounds_toArray, List.set_cons_succ, List.set_cons_zero, List.getElem_toArray, List.getElem_cons_zero, List.getElem_cons_succ]
          refine hl_one rfl (by kernel_rfl) (fun K hK => ?_)
          go_simp
          have hri := Lib.hid (show RI w2 (.slice (some ⟨g, 0, none⟩) n ac) xs by have h := (show Sep w2 (vec 3 1 (.slice (some ⟨g, 0, none⟩) n ac) n (xs.map (Value.int .i64)) :: _) from hS.out); exact h.vec_ri)
          refine (some_any _ _ xs (rcL L x) w2 (by have := hxl.out; have := hnx.out; omega) (by have := hrl.out x; omega) hri.out hT.out).mono ?_
          rintro e w3 ⟨rfl, m, rfl⟩
          rw [hso.out]
          replace hS := Lib.hid (show Sep (w2.drewN m) [vec 3 1 (.slice (some ⟨g, 0, none⟩) n ac) n (xs.map (Value.int .i64)), old w] from hS.out.drewN m)
          clear hT
          refine hK.out _ _ hS.out ?_
          clear hK K
          try simp only [Act.put, List.setIfInBounds_toArray, List.set_cons_succ, List.set_cons_zero, List.getElem_toArray, List.getElem_cons_zero, List.getElem_cons_succ]
          refine hl_take ?v35 rfl (by kernel_rfl) ?y35 ?z35
          case y35 => intro W hW; skip; replace hW := Lib.hid hW; go_simp; try rfl
          case z35 =>
          simp only [Act.put, List.setIfInBounds_toArray, List.set_cons_succ, List.set_cons_zero, List.getElem_toArray, List.getElem_cons_zero, List.getElem_cons_succ]
          refine hl_take ?v36 rfl (by kernel_rfl) ?y36 ?z36
          case y36 => intro W hW; skip; replace hW := Lib.hid hW; go_simp; try rfl
          case z36 =>
          simp only [Act.put, List.setIfInBounds_toArray, List.set_cons_succ, List.set_cons_zero, List.getElem_toArray, List.getElem_cons_zero, List.getElem_cons_succ]
          refine hl_done ?_
          clear hV
          replace hV := hS
          clear hS
          clear wj
          have hx2 := hxl.out
          go_wp2_with fail
          go_roundg (n - (j + 1 + 1))
          case measure => omega
          case rel => exact ⟨j + 1 + 1, by omega, rfl, by go_num, hV⟩
      · go_wp2_with fail
        refine (hrun.out _).mono ?_
        rintro e w3 ⟨rfl, rfl⟩
        go_wp2_with fail
        refine (HF.out fr _ (htk.out.below hV.out.tail.gold)).mono ?_
        rintro e w4 ⟨fa, fc, rfl, q⟩
        replace hV := Lib.hid (q.graft hV.out)
        clear q HF htk hrun
        go_wp2_with fail
        refine (HW.out _ (hv.out.below hV.out.tail.tail.gold)).mono ?_
        rintro e w5 ⟨la, lc, rfl, q⟩
        replace hV := Lib.hid (q.graft hV.out)
        clear q HW
        have hkl2 := keepL_len (onE x) L
        have HL := Lib.hid (fun q v W (h : RL W v 2 (keepL (onE x) L).length ((keepL (onE x) L).flatMap Ed.cells)) => reachL_any v (keepL (onE x) L) q W h (by omega))
        have hgo := Lib.hid (fun i (hi : i < (rcL (keepL (onE x) L) fr).length) => show (((rcL (keepL (onE x) L) fr).getD i 0) == x) = false by
          rw [beq_eq_false_iff_ne]
          intro he
          have hm : (rcL (keepL (onE x) L) fr).getD i 0 ∈ rcL (keepL (onE x) L) fr := by simp [List.getD, hi]
          rw [he] at hm
          exact rcL_gone L fr x hm)
        have hs1 := Lib.hid (show someI xs (rcL (L.take k) fr) = true by rw [someI_iff, ← hxs.out]; exact rcL_mono (fun e he => List.mem_of_mem_take he) fr)
        have hs2 := Lib.hid (show someI xs (rcL (keepL (onE x) L) fr) = true by rw [someI_iff, ← hxs.out]; exact rcL_mono (fun e he => ((keepL_on x L e).1 he).1) fr)
        have hout := rcL_out L x
        have hgl := Lib.hid (rcL_le (keepL (onE x) L) fr)
        have hfl := Lib.hid (Nat.le_trans (rcL_le (L.take k) fr) (show (L.take k).length ≤ L.length by rw [List.length_take]; omega))
        generalize keepL (onE x) L = L2 at *
        generalize rcL (L.take k) fr = fs at *
        generalize hgs : rcL L2 fr = gs at *
        obtain ⟨n2, hn2⟩ : ∃ n2, Hid (L2.length = n2) := ⟨_, rfl⟩
        obtain ⟨nf, hnf⟩ : ∃ nf, Hid (fs.length = nf) := ⟨_, rfl⟩
        obtain ⟨ng, hng⟩ : ∃ ng, Hid (gs.length = ng) := ⟨_, rfl⟩
        rw [hn2.out, hnf.out] at hV
        rw [hn2.out] at hkl2 hgl
        rw [hng.out] at hgl hgo
        rw [hnf.out] at hfl
        rw [hnf.out]
        rw [hn2.out]
        simp only [hn2.out] at HL
        replace hV := Lib.hid hV.out
        have HG := Lib.hid (HL.out fr (.slice la n2 lc) w5 hV.out.vec_rl)
        rw [hgs, hng.out] at HG
        go_wp2_with fail
        refine HG.out.mono ?_
        rintro e w6 ⟨ga, gc, rfl, q⟩
        replace hV := Lib.hid (q.graft hV.out)
        clear q HG
        go_wp2_with fail
        go_loopg [14] ng (fun gm s14 W => ∃ i : Nat, i ≤ ng ∧ gm = ng - i ∧ s14 = .int .i64 i ∧ Hid (W = w6))
        case atStart => exact ⟨0, Nat.zero_le _, rfl, rfl, Lib.hid rfl⟩
        case round =>
          obtain ⟨i, hi, hgm, rfl, hw6⟩ := hrel
          obtain rfl := hw6.out
          by_cases hlt : i < ng
          · obtain ⟨g, rfl⟩ := hV.out.vec_ptr (by omega)
            have z1 := (hV.out.vec_cell (int_at (xs := gs) (i := i) (by rw [hng.out]; exact hlt))).1
            have hne := hgo.out i hlt
            generalize gs.getD i 0 = y at *
            have i1 : (0 : Int) ≤ (i : Int) := by omega
            have i2 : (i : Int) < (ng : Int) := by omega
            have hg3 : ng ≤ 1000 := by have := hgl.out; omega
            go_wp2_with fail
            go_roundg (ng - (i + 1))
            case measure => omega
            case rel => exact ⟨i + 1, by omega, rfl, by go_num, Lib.hid rfl⟩
          · have H1 := Lib.hid (fun W h1 h2 => some_any (.slice aa n ac) (.slice fa nf fc) xs fs W (by rw [hnx.out]; exact hxl.out) (by rw [hnf.out]; have := hfl.out; omega) h1 h2)
            have H2 := Lib.hid (fun W h1 h2 => some_any (.slice aa n ac) (.slice ga ng gc) xs gs W (by rw [hnx.out]; exact hxl.out) (by rw [hng.out]; have := hgl.out; omega) h1 h2)
            rw [hs1.out] at H1
            rw [hs2.out] at H2
            have H3 := Lib.hid (fun W h => HL.out x (.slice la n2 lc) W h)
            rw [hout] at H3
            have hlr : (n2 : Int) ≤ (len : Int) := by omega
            go_wp2_with fail
            refine (H1.out _ hV.out.to3.vec_ri hV.out.to2.vec_ri).mono ?_
            rintro e w7 ⟨rfl, m7, hw⟩
            replace hV := Lib.hid (show Sep w7 _ by rw [hw]; exact hV.out.drewN m7)
            clear hw
            clear H1
            go_wp2_with fail
            refine (H2.out _ hV.out.to3.vec_ri hV.out.vec_ri).mono ?_
            rintro e w8 ⟨rfl, m8, hw⟩
            replace hV := Lib.hid (show Sep w8 _ by rw [hw]; exact hV.out.drewN m8)
            clear hw
            clear H2
            go_wp2_with fail
            refine (H3.out _ hV.out.to1.vec_rl).mono ?_
            rintro e w9 ⟨ha, hc, rfl, q⟩
            replace hV := Lib.hid (q.graft hV.out)
            clear q H3
            go_wp2_with fail
            go_ret
            exact ⟨rfl, (hV.out.bring 5 rfl).gold⟩
  · have i30 : (30 : Int) < (len : Int) := by omega
    go_enter Try.func5, Try.ntmps5
    go_wp2_with fail
    refine (lives_any _).mono ?_
    rintro e w1 ⟨rfl, q⟩
    have hb := Lib.hid q
    clear q
    go_wp2_with fail
    go_ret
    exact ⟨rfl, hb.out⟩
end Go.Proofs.Ytcnkmhfcgkbhbaa
