/-
  The reference's Cycle tells what the program's tells. No condition beside a list that can be read.
-/
import Derived.Test.YthbamhfnemdebaaWFc
namespace Go.Proofs.Ythbamhfnemdebaa
open Go.RowKit
theorem rsC_len (L : List Ed) (fr : Int) : (rsC (nxL L) fr).1.length ≤ L.length + 1 := by
  unfold rsC
  simp only [List.length_reverse, List.length_append, List.length_cons, List.length_nil]
  have h1 := wyN_len L fr
  have h2 := pathB_len (wyN (nxL L) fr) fr (wyN (nxL L) fr).length (stepB (wyN (nxL L) fr) fr)
  omega
set_option maxHeartbeats 16000000 in
set_option maxRecDepth 100000 in
theorem cycleR_any (v : Value) (L : List Ed) (w : World) (hv : RL w v 2 L.length (L.flatMap Ed.cells)) (hl : L.length ≤ 900) :
    Calls Try.prog 10 #[v] w fun e w' => ∃ (a : Option Addr) (c : Nat), e = .returned (.tuple #[.slice a (cyc L).1.length c, .bool (cyc L).2]) ∧ Sep w' [vec 3 1 (.slice a (cyc L).1.length c) (cyc L).1.length ((cyc L).1.map (Value.int .i64)), old w] := by
  have HS := Lib.hid (sortedR_any v L w hv (by omega))
  have hsl := sdE_len L
  obtain ⟨res, hres⟩ : ∃ res, Hid (cyc L = res) := ⟨_, rfl⟩
  have hres0 := Lib.hid (show cycG (nxL L) (sdE L) = res from hres.out)
  rw [hres.out]
  have hfs := Lib.hid (fun fr r (h : FarIs (sdE L) fr fr r) => far_self h)
  have hcl := Lib.hid (fun fr => rsC_len L fr)
  obtain ⟨i0, hi0, hz0, hz1, hz2⟩ := info_parts info_int
  have h1c : Hid (∀ x, ∀ u ∈ ([.int .i64 x] : List Value), u.oneCell' = true) := Lib.hid (by simp [Value.oneCell'])
  obtain ⟨n0, hn0⟩ : ∃ n0, Hid ((sdE L).length = n0) := ⟨_, rfl⟩
  rw [hn0.out] at HS hsl
  have HF := Lib.hid (fun a c fr to W (h : RL W (.slice a n0 c) 2 n0 ((sdE L).flatMap Ed.cells)) => farR_any (.slice a n0 c) (sdE L) fr to W (by rw [hn0.out]; exact h) (by rw [hn0.out]; omega))
  clear hv hres
  go_enter Try.func10, Try.ntmps10
  go_wp2_with fail
  refine HS.out.mono ?_
  rintro e w1 ⟨sa, sc, rfl, q⟩
  have hV := Lib.hid q
  clear q HS
  go_wp2_with fail
  go_loopg [4] n0 (fun gm s4 W => ∃ i : Nat, i ≤ n0 ∧ gm = n0 - i ∧ s4 = .int .i64 i ∧ Hid (res = cycG (nxL L) ((sdE L).drop i)) ∧ Hid (Sep W [vec 29 2 (.slice sa n0 sc) n0 ((sdE L).flatMap Ed.cells), old w]))
  case atStart => exact ⟨0, Nat.zero_le _, rfl, rfl, Lib.hid hres0.out.symm, hV⟩
  case round =>
    clear hV hres0
    obtain ⟨i, hi, hgm, rfl, hE, hV⟩ := hrel
    by_cases hlt : i < n0
    · obtain ⟨g, hg, _, _, zz, _⟩ := hV.out.vec_at ed_len hn0.out hlt
      subst hg
      have hil : i < (sdE L).length := by rw [hn0.out]; exact hlt
      have hge : (sdE L).getD i default = (sdE L)[i] := by simp [List.getD, hil]
      rw [hge] at zz
      have hdr := Lib.hid (List.drop_eq_getElem_cons hil)
      rw [hdr.out, cycG_cons] at hE
      have z0 := zz 0 _ rfl
      rw [Nat.add_zero] at z0
      clear zz hge hdr
      generalize hfr : (sdE L)[i].from_ = fr at *
      clear hfr
      have i1 : (0 : Int) ≤ (i : Int) := by omega
      have i2 : (i : Int) < (n0 : Int) := by omega
      have HF1 := Lib.hid (HF.out _ _ fr fr wr hV.out.vec_rl)
      go_wp2_with fail
      refine HF1.out.mono ?_
      rintro e w2 ⟨r, rfl, hr, q⟩
      replace hV := Lib.hid (hV.out.below q)
      clear q HF1 z0
      rcases hfs.out fr r hr with ⟨rfl, hnr⟩ | ⟨rfl, hrd⟩
      · have hh : hasL (wyN (nxL L) fr) fr = false := by
          cases hb : hasL (wyN (nxL L) fr) fr with
          | false => rfl
          | true => exact absurd ((hasW_iff _ _ _).1 hb) hnr
        rw [hh, if_neg (by simp)] at hE
        clear hnr hr hh
        go_wp2_with fail
        go_roundg (n0 - (i + 1))
        case measure => omega
        case rel => exact ⟨i + 1, by omega, rfl, by go_num, hE, hV⟩
      · have hh : hasL (wyN (nxL L) fr) fr = true := (hasW_iff _ _ _).2 hrd
        rw [hh, if_pos rfl] at hE
        have hnx := Lib.hid (fun j hj k hk hf hfar hno => far_next hrd j hj k hk hf hfar hno)
        have hhas := Lib.hid (fun j hj => far_has hrd j hj)
        have hc0 := Lib.hid (rs_facts _ _ hrd).2.1
        have hcp := (rs_facts _ _ hrd).1
        have hcm := hcl.out fr
        have hres2 := Lib.hid (show res = ((rsC (nxL L) fr).1, true) from hE.out)
        clear hrd hr hh hE
        generalize (rsC (nxL L) fr).1 = c at *
        obtain ⟨m, hm⟩ : ∃ m, Hid (c.length = m) := ⟨_, rfl⟩
        rw [hm.out] at hcp hcm
        simp only [hm.out] at hnx hhas
        replace hnx := Lib.hid hnx.out
        replace hhas := Lib.hid hhas.out
        have hct := Lib.hid (show [fr] = c.take 1 by
          cases c with
          | nil => have := hm.out; simp at this; omega
          | cons x xs =>
            have := hc0.out
            simp at this
            simp [this])
        rw [hm.out]
        have m1 : ¬ (m : Int) < 0 := by omega
        have hV2 := Lib.hid ((hV.out.alloc #[.int .i64 fr] 3).blk_vec (size := 1) (n := 1) (c := 1) (xs := [fr].map (Value.int .i64)) rfl (Nat.le_refl _) (by decide) rfl rfl)
        rw [hct.out] at hV2
        clear hV
        go_wp2_with fail
        go_loopg [6, 7] m (fun gm s6 s7 W => ∃ (j nn : Nat) (ao : Option Addr) (co : Nat), Hid (nn + j = m) ∧ 0 < nn ∧ gm = nn ∧ s6 = .int .i64 nn ∧ s7 = .slice ao (j + 1) co ∧ Hid (Sep W [vec 3 1 (.slice ao (j + 1) co) (j + 1) ((c.take (j + 1)).map (Value.int .i64)), vec 29 2 (.slice (some ⟨g, 0, none⟩) n0 sc) n0 ((sdE L).flatMap Ed.cells), old w]))
        case atStart => exact ⟨0, m, _, 1, Lib.hid rfl, hcp, rfl, rfl, rfl, hV2⟩
        case round =>
          clear hV2
          obtain ⟨j, nn, ao, co, hjm, hnn, hg2, rfl, rfl, hV⟩ := hrel
          have hnm : nn ≤ 1000 := by have := hjm.out; omega
          by_cases hn1 : 1 < nn
          · obtain ⟨n2, rfl⟩ : ∃ n2, nn = n2 + 1 := ⟨nn - 1, by omega⟩
            have n1 : (1 : Int) < ((n2 + 1 : Nat) : Int) := by omega
            have n1b : 1 < n2 + 1 := hn1
            have n2p : 0 < n2 := by omega
            have hjm2 := hjm.out
            have hjc : j < c.length := by rw [hm.out]; omega
            have hj1c : j + 1 < c.length := by rw [hm.out]; omega
            have hj1 : j + 1 < m := by omega
            have hval : ((m - 1 - j : Nat) : Int) = (n2 : Int) := by omega
            have hjn : j ≤ 1000 := by omega
            obtain ⟨go, cap, cur, hgv, _⟩ := hV.out.gvec.2.resolve_left (by rintro ⟨_, h⟩; omega)
            injection hgv with e1 _ e3
            subst e1 e3
            have hx := Lib.hid (show ((c.take (j + 1)).map (Value.int .i64))[j]? = some (.int .i64 (c.getD j 0)) by
              rw [List.getElem?_map, List.getElem?_take, if_pos (by omega), List.getElem?_eq_getElem hjc]
              simp [List.getD, hjc])
            have zl := (hV.out.vec_cell hx.out).1
            have hct2 := Lib.hid (show c.take (j + 1 + 1) = c.take (j + 1) ++ [c.getD (j + 1) 0] by
              rw [List.take_succ_eq_append_getElem hj1c]
              simp [List.getD, hj1c])
            have hnx2 := Lib.hid (fun k hk hf hfar hno => hnx.out j hj1 k hk hf hfar hno)
            have hhas2 := Lib.hid (hhas.out j hj1)
            rw [hval] at hnx2 hhas2
            replace hnx2 := Lib.hid hnx2.out
            replace hhas2 := Lib.hid hhas2.out
            generalize c.getD j 0 = cj at *
            clear hjm2 hjc hj1c hj1 hval hx
            go_wp2_with fail
            go_loopg [7, 9] n0 (fun gm s7 s9 W => ∃ k : Nat, k ≤ n0 ∧ gm = n0 - k ∧ s7 = .slice (some ⟨go, 0, none⟩) (j + 1) co ∧ s9 = .int .i64 k ∧ Hid (∀ i (hi : i < k) (hi2 : i < (sdE L).length) r, ((sdE L)[i]).from_ = cj → FarIs (sdE L) ((sdE L)[i]).to fr r → r ≠ (n2 : Int)) ∧ Hid (Sep W [vec 3 1 (.slice (some ⟨go, 0, none⟩) (j + 1) co) (j + 1) ((c.take (j + 1)).map (Value.int .i64)), vec 29 2 (.slice (some ⟨g, 0, none⟩) n0 sc) n0 ((sdE L).flatMap Ed.cells), old w]))
            case atStart => exact ⟨0, Nat.zero_le _, rfl, rfl, rfl, Lib.hid (fun i hi => by omega), hV⟩
            case round =>
              clear hV zl
              obtain ⟨k, hk, hg3, rfl, rfl, hno, hV⟩ := hrel
              by_cases hkn : k < n0
              · obtain ⟨g', hg', hgb, _, zz, _⟩ := hV.out.to1.vec_at ed_len hn0.out hkn
                injection hg' with hg'
                injection hg' with hg'
                subst hg'
                have hkl : k < (sdE L).length := by rw [hn0.out]; exact hkn
                have hge : (sdE L).getD k default = (sdE L)[k] := by simp [List.getD, hkl]
                rw [hge] at zz
                have y0 := zz 0 _ rfl
                have y1 := zz 1 _ rfl
                rw [Nat.add_zero] at y0
                have hnk := Lib.hid (fun hf hfar => hnx2.out k hkl hf hfar (fun i hi r h1 h2 => hno.out i hi (by omega) r h1 h2))
                have hno2 := Lib.hid (fun (hne : ∀ r, (sdE L)[k].from_ = cj → FarIs (sdE L) (sdE L)[k].to fr r → r ≠ (n2 : Int)) i (hi : i < k + 1) (hi2 : i < (sdE L).length) r (h1 : ((sdE L)[i]).from_ = cj) (h2 : FarIs (sdE L) ((sdE L)[i]).to fr r) => show r ≠ (n2 : Int) by
                  by_cases hik : i < k
                  · exact hno.out i hik hi2 r h1 h2
                  · obtain rfl : i = k := by omega
                    exact hne r h1 h2)
                clear zz hge
                obtain ⟨f, hf⟩ : ∃ f, (sdE L)[k].from_ = f := ⟨_, rfl⟩
                obtain ⟨t, ht⟩ : ∃ t, (sdE L)[k].to = t := ⟨_, rfl⟩
                rw [hf] at y0
                rw [ht] at y1
                simp only [hf, ht] at hnk hno2
                replace hnk := Lib.hid hnk.out
                replace hno2 := Lib.hid hno2.out
                clear hf ht hkl
                have k1 : (0 : Int) ≤ (k : Int) := by omega
                have k2 : (k : Int) < (n0 : Int) := by omega
                by_cases hfc : f = cj
                · subst hfc
                  have HF2 := Lib.hid (HF.out _ _ t fr wr hV.out.to1.vec_rl)
                  go_wp2_with fail
                  refine HF2.out.mono ?_
                  rintro e w4 ⟨r2, rfl, hr2, q⟩
                  replace hV := Lib.hid (hV.out.below q)
                  replace y1 := (q.cell (p := ⟨g, k * 2 + 1, none⟩) hgb).trans y1
                  clear q HF2
                  by_cases hrn : r2 = (n2 : Int)
                  · subst hrn
                    have htc := Lib.hid (hnk.out (by first | rfl | trivial) hr2)
                    clear hr2 hnk hno2
                    go_wp2_with (at_builtin; (refine wpList_append_sep (hV.out.allocG _) rfl _ _ 25 rfl i0 _ 8 Try.underlying25 hi0 hz0 hz1 hz2 rfl (by decide) rfl 1 [.int .i64 t] (SrcA.one _ _ _ _) (h1c.out _) (by simp only [maxLen]; omega) (by omega) ?_; intro oa' oc' w5 q2; replace q2 := Lib.hid q2))
                    go_roundg n2
                    case measure => omega
                    case rel => exact ⟨j + 1, n2, oa', oc', Lib.hid (by have := hjm.out; omega), n2p, rfl, by go_num, rfl, Lib.hid (by rw [hct2.out, ← htc.out, List.map_append]; exact q2.out)⟩
                  · have e2 : (r2 == (n2 : Int)) = false := by simp [hrn]
                    have hno3 := Lib.hid (hno2.out (fun r _ h => by rw [farIs_uniq h hr2]; exact hrn))
                    clear hr2 hno2 hnk
                    go_wp2_with fail
                    go_roundg (n0 - (k + 1))
                    case measure => omega
                    case rel => exact ⟨k + 1, by omega, rfl, rfl, by go_num, hno3, hV⟩
                · have e1 : (f == cj) = false := by simp [hfc]
                  have hno3 := Lib.hid (hno2.out (fun r h _ => absurd h hfc))
                  go_wp2_with fail
                  go_roundg (n0 - (k + 1))
                  case measure => omega
                  case rel => exact ⟨k + 1, by omega, rfl, rfl, by go_num, hno3, hV⟩
              · exfalso
                obtain ⟨k', hk', h1, h2⟩ := hhas2.out
                exact hno.out k' (by rw [hn0.out] at hk'; omega) hk' _ h1 h2 rfl
          · have n1 : ¬ (1 : Int) < (nn : Int) := by omega
            have hjm2 := hjm.out
            obtain rfl : j + 1 = m := by omega
            have hcf : c.take (j + 1) = c := by rw [← hm.out, List.take_length]
            rw [hcf] at hV
            have hm2 := hm.out
            have hr3 := hres2.out
            subst hr3
            go_wp2_with fail
            refine bodyPost_ret (v := .tuple #[.slice ao (j + 1) co, .bool true]) (by simp [results, Try.results10, go_sem, *]) rfl ⟨ao, co, by simp [hm2], ?_⟩
            have h := hV.out.drop1
            simpa [hm2] using h
    · have hin : i = n0 := by omega
      rw [show (sdE L).drop i = [] by rw [hin, ← hn0.out, List.drop_length]] at hE
      have i2 : ¬ (i : Int) < (n0 : Int) := by omega
      have hE2 := hE.out
      have hE3 : res = ([], false) := hE2
      clear hE hE2
      subst hE3
      go_wp2_with fail
      refine bodyPost_ret (v := .tuple #[.slice none 0 0, .bool false]) (by simp [results, Try.results10, go_sem, *]) rfl ⟨none, 0, rfl, hV.out.tail.vec_nil 3 1⟩
end Go.Proofs.Ythbamhfnemdebaa
