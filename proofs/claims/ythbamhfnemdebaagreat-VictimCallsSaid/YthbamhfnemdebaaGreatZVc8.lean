/-
  Contracts and plain laws that the walk leans on, part 8. No condition.
-/
import Derived.Test.YthbamhfnemdebaaGreatZVc7
namespace Go.Proofs.YthbamhfnemdebaaGreat
open Go.RowKit
theorem held_two {P : Program} {ops : Array Oper} {Q : Exit → Act → World → Prop} {md : Region.Mode} {S : World → Prop} (i j : Nat) {oi oj : Oper} {fuel : Nat} {listed : Array Bool} {a : Act} {w : World} (hr : Region.ready md ops listed = [i, j]) (hi : ops[i]? = some oi) (hj : ops[j]? = some oj)
    (wi : Region.wanted oi (yielded ops a.tmps) = true) (wj : Region.wanted oj (yielded ops a.tmps) = true)
    (h1 : ∀ K : Act → World → Prop, Hid (∀ a w, S w → wpAnyH P md ops Q S fuel (listed.setIfInBounds i true) a w → K a w) → oi.wp P a w K Q)
    (h2 : ∀ K : Act → World → Prop, Hid (∀ a w, S w → wpAnyH P md ops Q S fuel (listed.setIfInBounds j true) a w → K a w) → oj.wp P a w K Q) : wpAnyH P md ops Q S (fuel + 1) listed a w :=
  wpAnyH_ready hr (by simp) (AllReadyH.cons hi (fun K hK => by
    rw [if_pos wi]
    exact h1 K (fun a w hS hW => hK a w hS (fun _ => hW))) (AllReadyH.cons hj (fun K hK => by
    rw [if_pos wj]
    exact h2 K (fun a w hS hW => hK a w hS (fun _ => hW))) AllReadyH.nil))
theorem src_blk {w : World} {g : Nat} {t : Int} {rs : List Res} {ty : TypeId} (h : Sep w (blk g ty #[.int .i64 t] :: rs)) : SrcA w 1 (.slice (some ⟨g, 0, none⟩) 1 1) 1 [.int .i64 t] := by
  refine .inr ⟨_, _, rfl, rfl, fun j u hu => ?_⟩
  rw [Addr.add_lit]
  cases j with
  | zero => simp at hu; subst hu; exact h.b1.2.1
  | succ j => simp at hu
set_option maxHeartbeats 4000000 in
theorem inR_any (u : Value) (xs : List Int) (x : Int) (w : World) (hu : RI w u xs) (hl : xs.length ≤ 100000) :
    Calls Tryz.prog 58 #[u, .int .i64 x] w fun e w' => e = .returned (.bool (decide (x ∈ xs))) ∧ w' = w := by
  obtain ⟨a, c, rfl, hr⟩ := hu
  have HR := Lib.hid hr
  clear hr
  generalize hn : xs.length = n at *
  replace hn := Lib.hid hn
  go_enter Tryz.func58, Tryz.ntmps58
  go_wp2_with fail
  go_loopg [5] n (fun gm s5 W => ∃ k : Nat, k ≤ n ∧ gm = n - k ∧ s5 = .int .i64 k ∧ Hid (x ∉ xs.take k) ∧ Hid (W = w))
  case atStart => exact ⟨0, Nat.zero_le _, rfl, rfl, Lib.hid (by simp), Lib.hid rfl⟩
  case round =>
    obtain ⟨k, hk, hgm, rfl, hno, hw⟩ := hrel
    obtain rfl := hw.out
    by_cases hlt : k < n
    · obtain ⟨b, off, rfl, _, hc⟩ := HR.out (by omega)
      have z := hc k hlt
      have hkl : k < xs.length := by rw [hn.out]; exact hlt
      have hg : xs.getD k 0 = xs[k] := by simp [List.getD, hkl]
      have htk := Lib.hid (show xs.take (k + 1) = xs.take k ++ [xs.getD k 0] by rw [hg]; exact List.take_succ_eq_append_getElem hkl)
      have hmem := Lib.hid (show xs.getD k 0 ∈ xs by rw [hg]; exact List.getElem_mem _)
      clear hc hg
      generalize xs.getD k 0 = y at *
      have i1 : (0 : Int) ≤ (k : Int) := by omega
      have i2 : (k : Int) < (n : Int) := by omega
      by_cases he : y = x
      · have hd := Lib.hid (show decide (x ∈ xs) = true by rw [← he]; simp [hmem.out])
        have e1 : (y == x) = true := by simp [he]
        go_wp2_with fail
        go_ret
        exact ⟨by rw [hd.out]; rfl, rfl⟩
      · have e1 : (y == x) = false := by simp [he]
        go_wp2_with fail
        go_roundg (n - (k + 1))
        case measure => omega
        case rel => exact ⟨k + 1, by omega, rfl, by go_num, Lib.hid (by
          rw [htk.out, List.mem_append, List.mem_singleton]
          rintro (h | h)
          · exact hno.out h
          · exact he h.symm), Lib.hid rfl⟩
    · have hd := Lib.hid (show decide (x ∈ xs) = false by
        have h := hno.out
        rw [show k = n by omega, ← hn.out, List.take_length] at h
        simp [h])
      go_wp2_with fail
      go_ret
      exact ⟨by rw [hd.out]; rfl, rfl⟩
set_option maxHeartbeats 16000000 in
set_option maxRecDepth 100000 in
theorem farR_any (v : Value) (L : List Ed) (fr tgt : Int) (w : World) (hv : RL w v 2 L.length (L.flatMap Ed.cells)) (hl : L.length ≤ 1000) :
    Calls Tryz.prog 45 #[v, .int .i64 fr, .int .i64 tgt] w fun e w' => ∃ r, e = .returned (.int .i64 r) ∧ FarIs L fr tgt r ∧ Below w.heap.size w w' := by
  have hv2 := Lib.hid hv
  obtain ⟨_, va, vp, rfl, _⟩ := hv
  obtain ⟨n0, hn0⟩ : ∃ n0, Hid (L.length = n0) := ⟨_, rfl⟩
  rw [hn0.out] at hv2 hl
  obtain ⟨i0, hi0, hz0, hz1, hz2⟩ := info_parts info_int
  have h1c : Hid (∀ x, ∀ u ∈ ([.int .i64 x] : List Value), u.oneCell' = true) := Lib.hid (by simp [Value.oneCell'])
  have hJ0 := Lib.hid (farJ_start L fr tgt)
  have hS0 := Lib.hid (((Sep.start w).alloc #[.int .i64 fr] 3).alloc #[] 3)
  have hV0 := Lib.hid (hS0.out.to1.blk_vec (size := 1) (n := 1) (c := 1) (xs := [fr].map (Value.int .i64)) rfl (Nat.le_refl _) (by decide) rfl rfl)
  replace hV0 := Lib.hid (hV0.out.to1.blk_vec (size := 1) (n := 0) (c := 0) (xs := ([] : List Int).map (Value.int .i64)) rfl (Nat.le_refl _) (by decide) rfl rfl)
  clear hS0
  simp only [World.size_alloc] at hV0
  go_enter Tryz.func45, Tryz.ntmps45
  go_wp2_with fail
  go_loopg [7, 8, 9] (2 * n0 + 1) (fun gm s7 s8 s9 W => ∃ (now sn : List Int) (n nn ns : Nat) (aN aS : Option Addr) (cN cS : Nat), gm = 2 * (n0 - ns) + (if nn = 0 then 0 else 1) ∧ s7 = .slice aN nn cN ∧ s8 = .slice aS ns cS ∧ s9 = .int .i64 n ∧ Hid (now.length = nn) ∧ Hid (sn.length = ns) ∧ Hid (FarJ L fr tgt now sn n) ∧ Hid (sn.Nodup ∧ ∀ x ∈ sn, x ∈ L.map (·.tgt)) ∧ ns ≤ n0 ∧ nn ≤ n0 + 1 ∧ n ≤ ns + 2 ∧ (0 < nn → n ≤ ns + 1) ∧ Hid (Sep W [vec 3 1 (.slice aS ns cS) ns (sn.map (Value.int .i64)), vec 3 1 (.slice aN nn cN) nn (now.map (Value.int .i64)), old w]))
  case atStart => exact ⟨[fr], [], 1, 1, 0, _, _, 1, 0, by simp, rfl, rfl, rfl, Lib.hid rfl, Lib.hid rfl, hJ0, Lib.hid (by simp), by omega, by omega, by omega, fun _ => by omega, hV0⟩
  case round =>
    clear hV0 hJ0
    obtain ⟨now, sn, n, nn, ns, aN, aS, cN, cS, hgm, rfl, rfl, rfl, hnn, hns, hJ, hok, hns0, hnn0, hn2, hn3, hV⟩ := hrel
    by_cases h0 : nn = 0
    · subst h0
      have hend := Lib.hid (show FarIs L fr tgt (-1) by
        refine .inl ⟨rfl, ?_⟩
        have hJ2 := hJ.out
        rw [List.eq_nil_of_length_eq_zero hnn.out] at hJ2
        exact farJ_end hJ2)
      go_wp2_with fail
      go_ret
      exact ⟨-1, rfl, hend.out, hV.out.tail.tail.gold⟩
    · have h0p : (0 : Int) < (nn : Int) := by omega
      have h0n : 0 < nn := by omega
      have h0d : decide (0 < nn) = true := by simp [h0n]
      have hn3' := hn3 (by omega)
      rw [if_neg h0] at hgm
      replace hV := Lib.hid (hV.out.vec_nil 3 1)
      go_wp2_with fail
      go_loopg [8, 10, 11] n0 (fun gm s8 s10 s11 W => ∃ (i : Nat) (sn2 nx : List Int) (ns2 nx2 : Nat) (aS aX : Option Addr) (cS cX : Nat), i ≤ n0 ∧ gm = n0 - i ∧ s8 = .slice aS ns2 cS ∧ s10 = .slice aX nx2 cX ∧ s11 = .int .i64 i ∧ Hid (sn2.length = ns2) ∧ Hid (nx.length = nx2) ∧ Hid (farI now tgt L sn [] = farI now tgt (L.drop i) sn2 nx) ∧ Hid (sn2.Nodup ∧ ∀ x ∈ sn2, x ∈ L.map (·.tgt)) ∧ ns2 ≤ n0 ∧ Hid (ns2 = ns + nx2) ∧ Hid (Sep W [vec 3 1 (.slice aS ns2 cS) ns2 (sn2.map (Value.int .i64)), vec 3 1 (.slice aX nx2 cX) nx2 (nx.map (Value.int .i64)), vec 3 1 (.slice aN nn cN) nn (now.map (Value.int .i64)), old w]))
      case atStart => exact ⟨0, sn, [], ns, 0, aS, none, cS, 0, Nat.zero_le _, rfl, rfl, rfl, rfl, hns, Lib.hid rfl, Lib.hid rfl, hok, hns0, Lib.hid rfl, Lib.hid hV.out.to1⟩
      case round =>
        clear hV
        obtain ⟨i, sn2, nx, ns2, nx2, aS, aX, cS, cX, hi, hg2, rfl, rfl, rfl, hs2, hx2, hF, hok2, hs20, hsx, hV⟩ := hrel
        by_cases hlt : i < n0
        · obtain ⟨b, off, rfl, hb, zz⟩ := cells_ed hv2.out hn0.out (by omega)
          have hil : i < L.length := by rw [hn0.out]; exact hlt
          have c0 : w.cell? ⟨b, off + i * 2, none⟩ = some (.int .i64 L[i].from_) := zz i _ (List.getElem?_eq_getElem hil) 0 _ rfl
          have c1 : w.cell? ⟨b, off + i * 2 + 1, none⟩ = some (.int .i64 L[i].tgt) := zz i _ (List.getElem?_eq_getElem hil) 1 _ rfl
          have hdr := Lib.hid (List.drop_eq_getElem_cons hil)
          have hmt := Lib.hid (show L[i].tgt ∈ L.map (·.tgt) from List.mem_map.2 ⟨_, List.getElem_mem hil, rfl⟩)
          rw [hdr.out] at hF
          clear zz hdr
          obtain ⟨e, he⟩ : ∃ e, L[i] = e := ⟨_, rfl⟩
          rw [he] at c0 c1 hF hmt
          clear he
          have hil3 : (i : Int) < (L.length : Int) := by omega
          obtain ⟨f, t⟩ := e
          simp only at c0 c1 hmt
          have g0 := (hV.out.tail.tail.tail.gold.cell (p := ⟨b, off + i * 2, none⟩) hb).trans c0
          have g1 := (hV.out.tail.tail.tail.gold.cell (p := ⟨b, off + i * 2 + 1, none⟩) hb).trans c1
          have k1 : (0 : Int) ≤ (i : Int) := by omega
          have k2 : (i : Int) < (n0 : Int) := by omega
          have hms := Lib.hid (show n0 - (i + 1) < n0 - i by omega)
          have HIn := Lib.hid (fun W h => inR_any (.slice aN nn cN) now f W h (by rw [hnn.out]; omega))
          have HIs := Lib.hid (fun W h => inR_any (.slice aS ns2 cS) sn2 t W h (by rw [hs2.out]; omega))
          have hnx := Lib.hid (show farI now tgt (⟨f, t⟩ :: L.drop (i + 1)) sn2 nx = if f ∉ now ∨ t ∈ sn2 then farI now tgt (L.drop (i + 1)) sn2 nx else if t = tgt then none else farI now tgt (L.drop (i + 1)) (sn2 ++ [t]) (nx ++ [t]) by conv => lhs; unfold farI)
          rw [hnx.out] at hF
          clear hnx
          by_cases hfn : f ∈ now
          · by_cases hts : t ∈ sn2
            · rw [if_pos (.inr hts)] at hF
              rw [decide_eq_true hfn] at HIn
              rw [decide_eq_true hts] at HIs
              clear hfn hts
              go_wp2_with fail
              refine (HIn.out _ hV.out.to2.vec_ri).mono ?_
              rintro e w3 ⟨rfl, rfl⟩
              go_wp2_with fail
              refine (HIs.out _ hV.out.vec_ri).mono ?_
              rintro e w4 ⟨rfl, rfl⟩
              go_wp2_with fail
              go_roundg (n0 - (i + 1))
              case measure => omega
              case rel => exact ⟨i + 1, sn2, nx, ns2, nx2, aS, aX, cS, cX, by omega, rfl, rfl, rfl, by go_num, hs2, hx2, hF, hok2, hs20, hsx, hV⟩
            · rw [if_neg (fun h => h.elim (fun h => h hfn) hts)] at hF
              rw [decide_eq_true hfn] at HIn
              rw [decide_eq_false hts] at HIs
              by_cases htt : t = tgt
              · rw [if_pos htt] at hF
                have hmet := Lib.hid (farIs_met hJ.out hF.out)
                clear hfn hts hF
                subst htt
                go_wp2_with fail
                refine (HIn.out _ hV.out.to2.vec_ri).mono ?_
                rintro e w3 ⟨rfl, rfl⟩
                go_wp2_with fail
                refine (HIs.out _ hV.out.vec_ri).mono ?_
                rintro e w4 ⟨rfl, rfl⟩
                go_wp2_with fail
                go_ret
                exact ⟨(n : Int), rfl, hmet.out, hV.out.tail.tail.tail.gold⟩
              · rw [if_neg htt] at hF
                have e1 : (t == tgt) = false := by simp [htt]
                have hok3 := Lib.hid (show (sn2 ++ [t]).Nodup ∧ ∀ x ∈ sn2 ++ [t], x ∈ L.map (·.tgt) by
                  refine ⟨?_, fun x hx => ?_⟩
                  · rw [List.nodup_append]
                    refine ⟨hok2.out.1, by simp, fun a ha b hb => ?_⟩
                    simp only [List.mem_singleton] at hb
                    subst hb
                    exact fun h => hts (h ▸ ha)
                  · rcases List.mem_append.1 hx with hx | hx
                    · exact hok2.out.2 x hx
                    · simp only [List.mem_singleton] at hx
                      rw [hx]
                      exact hmt.out)
                have hlen := Lib.hid (show ns2 + 1 ≤ n0 ∧ n0 ≤ 1000 by
                  have h := nodup_len _ _ hok3.out.1 hok3.out.2
                  simp only [List.length_append, List.length_map, List.length_cons, List.length_nil, hs2.out, hn0.out] at h
                  exact ⟨h, hl⟩)
                clear hfn hts
                go_wp2_with fail
                refine (HIn.out _ hV.out.to2.vec_ri).mono ?_
                rintro e w3 ⟨rfl, rfl⟩
                go_wp2_with fail
                refine (HIs.out _ hV.out.vec_ri).mono ?_
                rintro e w4 ⟨rfl, rfl⟩
                go_wp2_with fail
                have hT := Lib.hid hV.out.drew
                have hS := Lib.hid (show (fun W : World => Sep W [old w]) _ from (show Sep _ [old w] from hT.out.tail.tail.tail))
                refine held_begin (fun W : World => Sep W [old w]) (by kernel_rfl) hS.out ?_
                change wpAnyH _ _ _ _ _ 18 _ _ (World.drew _)
                clear hV
                generalize World.drew _ = wd at *
                refine held_take 0 ?w901 rfl (by kernel_rfl) (by kernel_rfl) (by kernel_rfl) (fun _ _ _ _ _ h => h) (by kernel_rfl) hS.out ?x901 ?z901
                case x901 => intro W hW; skip; replace hW := Lib.hid hW; go_simp; try rfl
                case z901 =>
                simp only [Act.put, List.setIfInBounds_toArray, List.set_cons_succ, List.set_cons_zero, List.getElem_toArray, List.getElem_cons_zero, List.getElem_cons_succ]
                refine held_take 1 ?w902 rfl (by kernel_rfl) (by kernel_rfl) (by kernel_rfl) (fun _ _ _ _ _ h => h) (by kernel_rfl) hS.out ?x902 ?z902
                case x902 => intro W hW; skip; replace hW := Lib.hid hW; go_simp; try rfl
                case z902 =>
                simp only [Act.put, List.setIfInBounds_toArray, List.set_cons_succ, List.set_cons_zero, List.getElem_toArray, List.getElem_cons_zero, List.getElem_cons_succ]
                refine held_take 2 ?w903 rfl (by kernel_rfl) (by kernel_rfl) (by kernel_rfl) (fun _ _ _ _ _ h => h) (by kernel_rfl) hS.out ?x903 ?z903
                case x903 => intro W hW; skip; replace hW := Lib.hid hW; go_simp; try rfl
                case z903 =>
                simp only [Act.put, List.setIfInBounds_toArray, List.set_cons_succ, List.set_cons_zero, List.getElem_toArray, List.getElem_cons_zero, List.getElem_cons_succ]
                refine held_take 3 ?w904 rfl (by kernel_rfl) (by kernel_rfl) (by kernel_rfl) (fun _ _ _ _ _ h => h) (by kernel_rfl) hS.out ?x904 ?z904
                case x904 => intro W hW; skip; replace hW := Lib.hid hW; go_simp; try rfl
                case z904 =>
                simp only [Act.put, List.setIfInBounds_toArray, List.set_cons_succ, List.set_cons_zero, List.getElem_toArray, List.getElem_cons_zero, List.getElem_cons_succ]
                refine held_take 4 ?w905 rfl (by kernel_rfl) (by kernel_rfl) (by kernel_rfl) (fun _ _ _ _ _ h => h) (by kernel_rfl) hS.out ?x905 ?z905
                case x905 => intro W hW; skip; replace hW := Lib.hid hW; go_simp; try rfl
                case z905 =>
                simp only [Act.put, List.setIfInBounds_toArray, List.set_cons_succ, List.set_cons_zero, List.getElem_toArray, List.getElem_cons_zero, List.getElem_cons_succ]
                refine held_take 5 ?w906 rfl (by kernel_rfl) (by kernel_rfl) (by kernel_rfl) (fun _ _ _ _ _ h => h) (by kernel_rfl) hS.out ?x906 ?z906
                case x906 => intro W hW; have y1 := ((show Sep W [old w] from hW).gold.cell (p := ⟨b, off + i * 2 + 1, none⟩) hb).trans c1; replace hW := Lib.hid hW; go_simp; try rfl
                case z906 =>
                simp only [Act.put, List.setIfInBounds_toArray, List.set_cons_succ, List.set_cons_zero, List.getElem_toArray, List.getElem_cons_zero, List.getElem_cons_succ]
                refine held_take 8 ?w907 rfl (by kernel_rfl) (by kernel_rfl) (by kernel_rfl) (fun _ _ _ _ _ h => h) (by kernel_rfl) hS.out ?x907 ?z907
                case x907 => intro W hW; skip; replace hW := Lib.hid hW; go_simp; try rfl
                case z907 =>
                simp only [Act.put, List.setIfInBounds_toArray, List.set_cons_succ, List.set_cons_zero, List.getElem_toArray, List.getElem_cons_zero, List.getElem_cons_succ]
                refine held_take 9 ?w908 rfl (by kernel_rfl) (by kernel_rfl) (by kernel_rfl) (fun _ _ _ _ _ h => h) (by kernel_rfl) hS.out ?x908 ?z908
                case x908 => intro W hW; skip; replace hW := Lib.hid hW; go_simp; try rfl
                case z908 =>
                simp only [Act.put, List.setIfInBounds_toArray, List.set_cons_succ, List.set_cons_zero, List.getElem_toArray, List.getElem_cons_zero, List.getElem_cons_succ]
                refine held_take 10 ?w909 rfl (by kernel_rfl) (by kernel_rfl) (by kernel_rfl) (fun _ _ _ _ _ h => h) (by kernel_rfl) hS.out ?x909 ?z909
                case x909 => intro W hW; skip; replace hW := Lib.hid hW; go_simp; try rfl
                case z909 =>
                simp only [Act.put, List.setIfInBounds_toArray, List.set_cons_succ, List.set_cons_zero, List.getElem_toArray, List.getElem_cons_zero, List.getElem_cons_succ]
                refine held_take 11 ?w910 rfl (by kernel_rfl) (by kernel_rfl) (by kernel_rfl) (fun _ _ _ _ _ h => h) (by kernel_rfl) hS.out ?x910 ?z910
                case x910 => intro W hW; skip; replace hW := Lib.hid hW; go_simp; try rfl
                case z910 =>
                simp only [Act.put, List.setIfInBounds_toArray, List.set_cons_succ, List.set_cons_zero, List.getElem_toArray, List.getElem_cons_zero, List.getElem_cons_succ]
                refine held_take 12 ?w911 rfl (by kernel_rfl) (by kernel_rfl) (by kernel_rfl) (fun _ _ _ _ _ h => h) (by kernel_rfl) hS.out ?x911 ?z911
                case x911 => intro W hW; skip; replace hW := Lib.hid hW; go_simp; try rfl
                case z911 =>
                simp only [Act.put, List.setIfInBounds_toArray, List.set_cons_succ, List.set_cons_zero, List.getElem_toArray, List.getElem_cons_zero, List.getElem_cons_succ]
                refine held_take 13 ?w912 rfl (by kernel_rfl) (by kernel_rfl) (by kernel_rfl) (fun _ _ _ _ _ h => h) (by kernel_rfl) hS.out ?x912 ?z912
                case x912 => intro W hW; have y1 := ((show Sep W [old w] from hW).gold.cell (p := ⟨b, off + i * 2 + 1, none⟩) hb).trans c1; replace hW := Lib.hid hW; go_simp; try rfl
                case z912 =>
                simp only [Act.put, List.setIfInBounds_toArray, List.set_cons_succ, List.set_cons_zero, List.getElem_toArray, List.getElem_cons_zero, List.getElem_cons_succ]
                refine held_two 6 14 (by kernel_rfl) rfl rfl (by kernel_rfl) (by kernel_rfl) (fun K hK => ?_) (fun K hK => ?_)
                · go_simp
                  have hT2 := hT.out.alloc #[.int .i64 t] 3
                  (try simp only [World.size_alloc] at hT2)
                  replace hT := Lib.hid hT2
                  clear hT2
                  replace hS := Lib.hid (show Sep _ [old w] from hT.out.tail.tail.tail.tail)
                  refine hK.out _ _ hS.out ?_
                  clear hK K
                  try simp only [Act.put, List.setIfInBounds_toArray, List.set_cons_succ, List.set_cons_zero, List.getElem_toArray, List.getElem_cons_zero, List.getElem_cons_succ]
                  refine held_two 7 14 (by kernel_rfl) rfl rfl (by kernel_rfl) (by kernel_rfl) (fun K hK => ?_) (fun K hK => ?_)
                  · refine wp_append_sep (hT.out.bring 1 rfl) (.tmp 51) (.tmp 57) 24 (by rfl) i0 _ 8 Tryz.underlying24 hi0 hz0 hz1 hz2 rfl (by decide) (by rfl) 1 [.int .i64 t] (by exact src_blk (hT.out.bring 0 rfl)) (h1c.out _) ?c913 ?d913 ?_
                    case c913 => have := hlen.out; have := hsx.out; simp only [maxLen]; omega
                    case d913 => have := hlen.out; have := hsx.out; omega
                    intro sa sc sw q
                    replace hT := Lib.hid q
                    clear q
                    replace hS := Lib.hid (show Sep _ [old w] from hT.out.tail.tail.tail.tail)
                    refine hK.out _ _ hS.out ?_
                    clear hK K
                    try simp only [Act.put, List.setIfInBounds_toArray, List.set_cons_succ, List.set_cons_zero, List.getElem_toArray, List.getElem_cons_zero, List.getElem_cons_succ]
                    refine held_one 14 (by kernel_rfl) rfl (by kernel_rfl) (fun K hK => ?_)
                    go_simp
                    have hT2 := hT.out.alloc #[.int .i64 t] 3
                    (try simp only [World.size_alloc] at hT2)
                    replace hT := Lib.hid hT2
                    clear hT2
                    replace hS := Lib.hid (show Sep _ [old w] from hT.out.tail.tail.tail.tail.tail)
                    refine hK.out _ _ hS.out ?_
                    clear hK K
                    try simp only [Act.put, List.setIfInBounds_toArray, List.set_cons_succ, List.set_cons_zero, List.getElem_toArray, List.getElem_cons_zero, List.getElem_cons_succ]
                    refine held_one 15 (by kernel_rfl) rfl (by kernel_rfl) (fun K hK => ?_)
                    refine wp_append_sep (hT.out.bring 3 rfl) (.tmp 59) (.tmp 65) 24 (by rfl) i0 _ 8 Tryz.underlying24 hi0 hz0 hz1 hz2 rfl (by decide) (by rfl) 1 [.int .i64 t] (by exact src_blk (hT.out.bring 0 rfl)) (h1c.out _) ?c914 ?d914 ?_
                    case c914 => have := hlen.out; have := hsx.out; simp only [maxLen]; omega
                    case d914 => have := hlen.out; have := hsx.out; omega
                    intro xa xc xw q
                    replace hT := Lib.hid q
                    clear q
                    replace hS := Lib.hid (show Sep _ [old w] from hT.out.tail.tail.tail.tail.tail)
                    refine hK.out _ _ hS.out ?_
                    clear hK K
                    try simp only [Act.put, List.setIfInBounds_toArray, List.set_cons_succ, List.set_cons_zero, List.getElem_toArray, List.getElem_cons_zero, List.getElem_cons_succ]
                    refine held_take 16 ?w919 rfl (by kernel_rfl) (by kernel_rfl) (by kernel_rfl) (fun _ _ _ _ _ h => h) (by kernel_rfl) hS.out ?x919 ?z919
                    case x919 => intro W hW; skip; replace hW := Lib.hid hW; go_simp; try rfl
                    case z919 =>
                    simp only [Act.put, List.setIfInBounds_toArray, List.set_cons_succ, List.set_cons_zero, List.getElem_toArray, List.getElem_cons_zero, List.getElem_cons_succ]
                    refine held_take 17 ?w920 rfl (by kernel_rfl) (by kernel_rfl) (by kernel_rfl) (fun _ _ _ _ _ h => h) (by kernel_rfl) hS.out ?x920 ?z920
                    case x920 => intro W hW; skip; replace hW := Lib.hid hW; go_simp; try rfl
                    case z920 =>
                    simp only [Act.put, List.setIfInBounds_toArray, List.set_cons_succ, List.set_cons_zero, List.getElem_toArray, List.getElem_cons_zero, List.getElem_cons_succ]
                    refine wpAnyH_done (by kernel_rfl) ?_ _
                    go_wp2_with fail
                    go_roundg (n0 - (i + 1))
                    case measure => rw [hg2]; exact hms.out
                    case rel => exact ⟨i + 1, sn2 ++ [t], nx ++ [t], ns2 + 1, nx2 + 1, sa, xa, sc, xc, by omega, rfl, rfl, rfl, by go_num, Lib.hid (by simp [hs2.out]), Lib.hid (by simp [hx2.out]), hF, hok3, hlen.out.1, Lib.hid (by rw [hsx.out]; omega), Lib.hid (by rw [List.map_append, List.map_append]; exact (((((hT.out.bring 4 rfl).bring 1 rfl).bring 3 rfl).bring 3 rfl).tail.bring 3 rfl).tail)⟩
                  · go_simp
                    have hT2 := hT.out.alloc #[.int .i64 t] 3
                    (try simp only [World.size_alloc] at hT2)
                    replace hT := Lib.hid hT2
                    clear hT2
                    replace hS := Lib.hid (show Sep _ [old w] from hT.out.tail.tail.tail.tail.tail)
                    refine hK.out _ _ hS.out ?_
                    clear hK K
                    try simp only [Act.put, List.setIfInBounds_toArray, List.set_cons_succ, List.set_cons_zero, List.getElem_toArray, List.getElem_cons_zero, List.getElem_cons_succ]
                    refine held_one 7 (by kernel_rfl) rfl (by kernel_rfl) (fun K hK => ?_)
                    refine wp_append_sep (hT.out.bring 2 rfl) (.tmp 51) (.tmp 57) 24 (by rfl) i0 _ 8 Tryz.underlying24 hi0 hz0 hz1 hz2 rfl (by decide) (by rfl) 1 [.int .i64 t] (by exact src_blk (hT.out.bring 1 rfl)) (h1c.out _) ?c915 ?d915 ?_
                    case c915 => have := hlen.out; have := hsx.out; simp only [maxLen]; omega
                    case d915 => have := hlen.out; have := hsx.out; omega
                    intro sa sc sw q
                    replace hT := Lib.hid q
                    clear q
                    replace hS := Lib.hid (show Sep _ [old w] from hT.out.tail.tail.tail.tail.tail)
                    refine hK.out _ _ hS.out ?_
                    clear hK K
                    try simp only [Act.put, List.setIfInBounds_toArray, List.set_cons_succ, List.set_cons_zero, List.getElem_toArray, List.getElem_cons_zero, List.getElem_cons_succ]
                    refine held_one 15 (by kernel_rfl) rfl (by kernel_rfl) (fun K hK => ?_)
                    refine wp_append_sep (hT.out.bring 3 rfl) (.tmp 59) (.tmp 65) 24 (by rfl) i0 _ 8 Tryz.underlying24 hi0 hz0 hz1 hz2 rfl (by decide) (by rfl) 1 [.int .i64 t] (by exact src_blk (hT.out.bring 1 rfl)) (h1c.out _) ?c916 ?d916 ?_
                    case c916 => have := hlen.out; have := hsx.out; simp only [maxLen]; omega
                    case d916 => have := hlen.out; have := hsx.out; omega
                    intro xa xc xw q
                    replace hT := Lib.hid q
                    clear q
                    replace hS := Lib.hid (show Sep _ [old w] from hT.out.tail.tail.tail.tail.tail)
                    refine hK.out _ _ hS.out ?_
                    clear hK K
                    try simp only [Act.put, List.setIfInBounds_toArray, List.set_cons_succ, List.set_cons_zero, List.getElem_toArray, List.getElem_cons_zero, List.getElem_cons_succ]
                    refine held_take 16 ?w921 rfl (by kernel_rfl) (by kernel_rfl) (by kernel_rfl) (fun _ _ _ _ _ h => h) (by kernel_rfl) hS.out ?x921 ?z921
                    case x921 => intro W hW; skip; replace hW := Lib.hid hW; go_simp; try rfl
                    case z921 =>
                    simp only [Act.put, List.setIfInBounds_toArray, List.set_cons_succ, List.set_cons_zero, List.getElem_toArray, List.getElem_cons_zero, List.getElem_cons_succ]
                    refine held_take 17 ?w922 rfl (by kernel_rfl) (by kernel_rfl) (by kernel_rfl) (fun _ _ _ _ _ h => h) (by kernel_rfl) hS.out ?x922 ?z922
                    case x922 => intro W hW; skip; replace hW := Lib.hid hW; go_simp; try rfl
                    case z922 =>
                    simp only [Act.put, List.setIfInBounds_toArray, List.set_cons_succ, List.set_cons_zero, List.getElem_toArray, List.getElem_cons_zero, List.getElem_cons_succ]
                    refine wpAnyH_done (by kernel_rfl) ?_ _
                    go_wp2_with fail
                    go_roundg (n0 - (i + 1))
                    case measure => rw [hg2]; exact hms.out
                    case rel => exact ⟨i + 1, sn2 ++ [t], nx ++ [t], ns2 + 1, nx2 + 1, sa, xa, sc, xc, by omega, rfl, rfl, rfl, by go_num, Lib.hid (by simp [hs2.out]), Lib.hid (by simp [hx2.out]), hF, hok3, hlen.out.1, Lib.hid (by rw [hsx.out]; omega), Lib.hid (by rw [List.map_append, List.map_append]; exact (((((hT.out.bring 4 rfl).bring 1 rfl).bring 2 rfl).bring 3 rfl).tail.bring 3 rfl).tail)⟩
                · go_simp
                  have hT2 := hT.out.alloc #[.int .i64 t] 3
                  (try simp only [World.size_alloc] at hT2)
                  replace hT := Lib.hid hT2
                  clear hT2
                  replace hS := Lib.hid (show Sep _ [old w] from hT.out.tail.tail.tail.tail)
                  refine hK.out _ _ hS.out ?_
                  clear hK K
                  try simp only [Act.put, List.setIfInBounds_toArray, List.set_cons_succ, List.set_cons_zero, List.getElem_toArray, List.getElem_cons_zero, List.getElem_cons_succ]
                  refine held_one 6 (by kernel_rfl) rfl (by kernel_rfl) (fun K hK => ?_)
                  go_simp
                  have hT2 := hT.out.alloc #[.int .i64 t] 3
                  (try simp only [World.size_alloc] at hT2)
                  replace hT := Lib.hid hT2
                  clear hT2
                  replace hS := Lib.hid (show Sep _ [old w] from hT.out.tail.tail.tail.tail.tail)
                  refine hK.out _ _ hS.out ?_
                  clear hK K
                  try simp only [Act.put, List.setIfInBounds_toArray, List.set_cons_succ, List.set_cons_zero, List.getElem_toArray, List.getElem_cons_zero, List.getElem_cons_succ]
                  refine held_one 7 (by kernel_rfl) rfl (by kernel_rfl) (fun K hK => ?_)
                  refine wp_append_sep (hT.out.bring 2 rfl) (.tmp 51) (.tmp 57) 24 (by rfl) i0 _ 8 Tryz.underlying24 hi0 hz0 hz1 hz2 rfl (by decide) (by rfl) 1 [.int .i64 t] (by exact src_blk (hT.out.bring 0 rfl)) (h1c.out _) ?c917 ?d917 ?_
                  case c917 => have := hlen.out; have := hsx.out; simp only [maxLen]; omega
                  case d917 => have := hlen.out; have := hsx.out; omega
                  intro sa sc sw q
                  replace hT := Lib.hid q
                  clear q
                  replace hS := Lib.hid (show Sep _ [old w] from hT.out.tail.tail.tail.tail.tail)
                  refine hK.out _ _ hS.out ?_
                  clear hK K
                  try simp only [Act.put, List.setIfInBounds_toArray, List.set_cons_succ, List.set_cons_zero, List.getElem_toArray, List.getElem_cons_zero, List.getElem_cons_succ]
                  refine held_one 15 (by kernel_rfl) rfl (by kernel_rfl) (fun K hK => ?_)
                  refine wp_append_sep (hT.out.bring 3 rfl) (.tmp 59) (.tmp 65) 24 (by rfl) i0 _ 8 Tryz.underlying24 hi0 hz0 hz1 hz2 rfl (by decide) (by rfl) 1 [.int .i64 t] (by exact src_blk (hT.out.bring 2 rfl)) (h1c.out _) ?c918 ?d918 ?_
                  case c918 => have := hlen.out; have := hsx.out; simp only [maxLen]; omega
                  case d918 => have := hlen.out; have := hsx.out; omega
                  intro xa xc xw q
                  replace hT := Lib.hid q
                  clear q
                  replace hS := Lib.hid (show Sep _ [old w] from hT.out.tail.tail.tail.tail.tail)
                  refine hK.out _ _ hS.out ?_
                  clear hK K
                  try simp only [Act.put, List.setIfInBounds_toArray, List.set_cons_succ, List.set_cons_zero, List.getElem_toArray, List.getElem_cons_zero, List.getElem_cons_succ]
                  refine held_take 16 ?w923 rfl (by kernel_rfl) (by kernel_rfl) (by kernel_rfl) (fun _ _ _ _ _ h => h) (by kernel_rfl) hS.out ?x923 ?z923
                  case x923 => intro W hW; skip; replace hW := Lib.hid hW; go_simp; try rfl
                  case z923 =>
                  simp only [Act.put, List.setIfInBounds_toArray, List.set_cons_succ, List.set_cons_zero, List.getElem_toArray, List.getElem_cons_zero, List.getElem_cons_succ]
                  refine held_take 17 ?w924 rfl (by kernel_rfl) (by kernel_rfl) (by kernel_rfl) (fun _ _ _ _ _ h => h) (by kernel_rfl) hS.out ?x924 ?z924
                  case x924 => intro W hW; skip; replace hW := Lib.hid hW; go_simp; try rfl
                  case z924 =>
                  simp only [Act.put, List.setIfInBounds_toArray, List.set_cons_succ, List.set_cons_zero, List.getElem_toArray, List.getElem_cons_zero, List.getElem_cons_succ]
                  refine wpAnyH_done (by kernel_rfl) ?_ _
                  go_wp2_with fail
                  go_roundg (n0 - (i + 1))
                  case measure => rw [hg2]; exact hms.out
                  case rel => exact ⟨i + 1, sn2 ++ [t], nx ++ [t], ns2 + 1, nx2 + 1, sa, xa, sc, xc, by omega, rfl, rfl, rfl, by go_num, Lib.hid (by simp [hs2.out]), Lib.hid (by simp [hx2.out]), hF, hok3, hlen.out.1, Lib.hid (by rw [hsx.out]; omega), Lib.hid (by rw [List.map_append, List.map_append]; exact (((((hT.out.bring 4 rfl).bring 1 rfl).bring 2 rfl).bring 3 rfl).tail.bring 3 rfl).tail)⟩
          · rw [if_pos (.inl hfn)] at hF
            rw [decide_eq_false hfn] at HIn
            clear hfn
            go_wp2_with fail
            refine (HIn.out _ hV.out.to2.vec_ri).mono ?_
            rintro e w3 ⟨rfl, rfl⟩
            go_wp2_with fail
            go_roundg (n0 - (i + 1))
            case measure => omega
            case rel => exact ⟨i + 1, sn2, nx, ns2, nx2, aS, aX, cS, cX, by omega, rfl, rfl, rfl, by go_num, hs2, hx2, hF, hok2, hs20, hsx, hV⟩
        · have hin : i = n0 := by omega
          have hil3 : ¬ (i : Int) < (L.length : Int) := by rw [hn0.out]; omega
          have hil4 : ¬ i < L.length := by omega
          have hF2 := Lib.hid (show farI now tgt L sn [] = some (sn2, nx) by rw [hF.out, List.drop_eq_nil_of_le (by rw [hn0.out]; omega)]; rfl)
          have hJ2 := Lib.hid (farJ_step hJ.out hF2.out)
          go_wp2_with fail
          go_roundg (2 * (n0 - ns2) + (if nx2 = 0 then 0 else 1))
          case measure =>
            have h := hsx.out
            split <;> omega
          case rel => exact ⟨nx, sn2, n + 1, nx2, ns2, aX, aS, cX, cS, rfl, rfl, rfl, by go_num, hx2, hs2, hJ2, hok2, hs20, by have h := hsx.out; omega, by have h := hsx.out; omega, fun h5 => by have h := hsx.out; omega, Lib.hid hV.out.drop2⟩
end Go.Proofs.YthbamhfnemdebaaGreat
namespace Go.Proofs.YthbamhfnemdebaaGreat
open Go.RowKit
theorem nx_sd (L : List Ed) : nxL (sdE L) = nxL L := by
  unfold nxL
  rw [sdE_self (sdE L) (sdE_pw L)]
theorem rows_pw (L : List Ed) (a : Int) : (rowL (nxL L) a).Pairwise (· < ·) := by
  rw [rowL_nx, List.pairwise_map]
  refine List.Pairwise.imp_of_mem (fun {x y} hx hy h => ?_) ((sdE_pw L).filter _)
  rw [List.mem_filter] at hx hy
  have h1 := hx.2
  have h2 := hy.2
  simp only [beq_iff_eq] at h1 h2
  simp only [ltE] at h
  omega
theorem rd_wk {N : Rw} {a b : Int} (h : Rd N a b) : ∃ k, Wk N k a b := by
  induction h with
  | one ht => exact ⟨1, .one ht⟩
  | more _ ht ih =>
    obtain ⟨k, hk⟩ := ih
    exact ⟨k + 1, hk.snoc ht⟩
/-- What far tells of one that reaches itself, and of one that does not. -/
theorem far_self {L : List Ed} {fr r : Int} (h : FarIs (sdE L) fr fr r) : (r = -1 ∧ ¬ Rd (nxL L) fr fr) ∨ (r = ((rsC (nxL L) fr).1.length : Int) ∧ Rd (nxL L) fr fr) := by
  unfold FarIs at h
  rw [nx_sd] at h
  rcases h with ⟨rfl, h1⟩ | ⟨n, rfl, h1, h2⟩
  · refine .inl ⟨rfl, fun hr => ?_⟩
    obtain ⟨k, hk⟩ := rd_wk hr
    exact h1 k hk
  · have hr := h1.rd
    refine .inr ⟨?_, hr⟩
    have h3 := shortest (rows_pw L) hr h1
    have h4 := back_ hr 0 (rs_facts _ _ hr).1
    rw [(rs_facts _ _ hr).2.1, Nat.sub_zero] at h4
    have h5 : ¬ (rsC (nxL L) fr).1.length < n := fun h => h2 _ h h4
    omega
/-- The next one of the cycle stands at its edge alone. -/
theorem far_next {L : List Ed} {fr : Int} (hr : Rd (nxL L) fr fr) (j : Nat) (hj : j + 1 < (rsC (nxL L) fr).1.length) (k : Nat) (hk : k < (sdE L).length) (hf : (sdE L)[k].from_ = (rsC (nxL L) fr).1.getD j 0)
    (hfar : FarIs (sdE L) (sdE L)[k].tgt fr (((rsC (nxL L) fr).1.length - 1 - j : Nat) : Int)) (hno : ∀ i (hi : i < k) r, ((sdE L)[i]'(by omega)).from_ = (rsC (nxL L) fr).1.getD j 0 → FarIs (sdE L) ((sdE L)[i]'(by omega)).tgt fr r → r ≠ (((rsC (nxL L) fr).1.length - 1 - j : Nat) : Int)) : (sdE L)[k].tgt = (rsC (nxL L) fr).1.getD (j + 1) 0 := by
  have hs := rows_pw L
  have hmem : (sdE L)[k] ∈ L := (sdE_mem L _).1 (List.getElem_mem hk)
  have ht : (sdE L)[k].tgt ∈ rowL (nxL L) ((rsC (nxL L) fr).1.getD j 0) := (rowL_mem _ _ _).2 (by rw [← hf]; exact hmem)
  unfold FarIs at hfar
  rw [nx_sd] at hfar
  have hw : Wk (nxL L) ((rsC (nxL L) fr).1.length - 1 - j) (sdE L)[k].tgt fr := by
    rcases hfar with ⟨h1, _⟩ | ⟨n, h1, h2, _⟩
    · omega
    · rw [show (rsC (nxL L) fr).1.length - 1 - j = n by omega]
      exact h2
  have hle := least hs hr j hj ht hw
  refine Int.le_antisymm (Int.not_lt.1 fun hlt => ?_) hle
  have hpar := wyN_par (nxL L) fr _ ((rs_facts _ _ hr).2.2.1 j hj)
  simp only at hpar
  rw [rowL_mem, ← sdE_mem] at hpar
  obtain ⟨i, hi, he⟩ := List.mem_iff_getElem.1 hpar
  have hik : i < k := by
    refine Nat.lt_of_not_le fun h => ?_
    rcases Nat.lt_or_eq_of_le h with h | h
    · have := List.pairwise_iff_getElem.1 (sdE_pw L) k i hk hi h
      rw [he] at this
      simp only [ltE] at this
      omega
    · subst h
      rw [he] at hlt
      simp only at hlt
      omega
  refine hno i hik _ (by rw [he]) ?_ rfl
  unfold FarIs
  rw [nx_sd, he]
  refine .inr ⟨_, rfl, ?_, fun q hq hwq => ?_⟩
  · have := back_ hr (j + 1) hj
    rwa [show (rsC (nxL L) fr).1.length - (j + 1) = (rsC (nxL L) fr).1.length - 1 - j by omega] at this
  · have := dist_ hs hr (j + 1) hj hwq
    omega
/-- And there is such an edge. -/
theorem far_has {L : List Ed} {fr : Int} (hr : Rd (nxL L) fr fr) (j : Nat) (hj : j + 1 < (rsC (nxL L) fr).1.length) : ∃ k, ∃ hk : k < (sdE L).length, (sdE L)[k].from_ = (rsC (nxL L) fr).1.getD j 0 ∧ FarIs (sdE L) (sdE L)[k].tgt fr (((rsC (nxL L) fr).1.length - 1 - j : Nat) : Int) := by
  have hpar := wyN_par (nxL L) fr _ ((rs_facts _ _ hr).2.2.1 j hj)
  simp only at hpar
  rw [rowL_mem, ← sdE_mem] at hpar
  obtain ⟨i, hi, he⟩ := List.mem_iff_getElem.1 hpar
  refine ⟨i, hi, by rw [he], ?_⟩
  unfold FarIs
  rw [nx_sd, he]
  refine .inr ⟨_, rfl, ?_, fun q hq hwq => ?_⟩
  · have := back_ hr (j + 1) hj
    rwa [show (rsC (nxL L) fr).1.length - (j + 1) = (rsC (nxL L) fr).1.length - 1 - j by omega] at this
  · have := dist_ (rows_pw L) hr (j + 1) hj hwq
    omega
end Go.Proofs.YthbamhfnemdebaaGreat
namespace Go.Proofs.YthbamhfnemdebaaGreat
open Go.RowKit
theorem rsC_len (L : List Ed) (fr : Int) : (rsC (nxL L) fr).1.length ≤ L.length + 1 := by
  unfold rsC
  simp only [List.length_reverse, List.length_append, List.length_cons, List.length_nil]
  have h1 := wyN_len L fr
  have h2 := pathB_len (wyN (nxL L) fr) fr (wyN (nxL L) fr).length (stepB (wyN (nxL L) fr) fr)
  omega
set_option maxHeartbeats 16000000 in
set_option maxRecDepth 100000 in
theorem cycleR_any (v : Value) (L : List Ed) (w : World) (hv : RL w v 2 L.length (L.flatMap Ed.cells)) (hl : L.length ≤ 900) :
    Calls Tryz.prog 24 #[v] w fun e w' => ∃ (a : Option Addr) (c : Nat), e = .returned (.tuple #[.slice a (cyc L).1.length c, .bool (cyc L).2]) ∧ Sep w' [vec 3 1 (.slice a (cyc L).1.length c) (cyc L).1.length ((cyc L).1.map (Value.int .i64)), old w] := by
  have HS := Lib.hid (sortedR_any v L w hv (by omega))
  have hsl := sdE_len L
  obtain ⟨res, hres⟩ : ∃ res, Hid (cyc L = res) := ⟨_, rfl⟩
  have hres0 := Lib.hid (show cycG (nxL L) (sdE L) = res from hres.out)
  rw [hres.out]
  have hfs := Lib.hid (fun fr r (h : FarIs (sdE L) fr fr r) => far_self h)
  have hcl := Lib.hid (fun fr => rsC_len L fr)
  obtain ⟨i0, hi0, hz0, hz1, hz2⟩ := info_parts info_int
  have h1c : Hid (∀ x, ∀ u ∈ ([.int .i64 x] : List Value), u.oneCell' = true) := Lib.hid (by simp [Value.oneCell'])
  obtain ⟨n0, hn0⟩ : ∃ n0, Hid ((sdE L).length = n0) := ⟨_, rfl⟩
  rw [hn0.out] at HS hsl
  have HF := Lib.hid (fun a c fr tgt W (h : RL W (.slice a n0 c) 2 n0 ((sdE L).flatMap Ed.cells)) => farR_any (.slice a n0 c) (sdE L) fr tgt W (by rw [hn0.out]; exact h) (by rw [hn0.out]; omega))
  clear hv hres
  go_enter Tryz.func24, Tryz.ntmps24
  go_wp2_with fail
  refine HS.out.mono ?_
  rintro e w1 ⟨sa, sc, rfl, q⟩
  have hV := Lib.hid q
  clear q HS
  go_wp2_with fail
  go_loopg [4] n0 (fun gm s4 W => ∃ i : Nat, i ≤ n0 ∧ gm = n0 - i ∧ s4 = .int .i64 i ∧ Hid (res = cycG (nxL L) ((sdE L).drop i)) ∧ Hid (Sep W [vec 36 2 (.slice sa n0 sc) n0 ((sdE L).flatMap Ed.cells), old w]))
  case atStart => exact ⟨0, Nat.zero_le _, rfl, rfl, Lib.hid hres0.out.symm, hV⟩
  case round =>
    clear hV hres0
    obtain ⟨i, hi, hgm, rfl, hE, hV⟩ := hrel
    by_cases hlt : i < n0
    · obtain ⟨g, hg, _, _, zz, _⟩ := hV.out.vec_at ed_len hn0.out hlt
      subst hg
      have hil : i < (sdE L).length := by rw [hn0.out]; exact hlt
      have hge : (sdE L).getD i default = (sdE L)[i] := by simp [List.getD, hil]
      rw [hge] at zz
      have hdr := Lib.hid (List.drop_eq_getElem_cons hil)
      rw [hdr.out, cycG_cons] at hE
      have z0 := zz 0 _ rfl
      rw [Nat.add_zero] at z0
      clear zz hge hdr
      generalize hfr : (sdE L)[i].from_ = fr at *
      clear hfr
      have i1 : (0 : Int) ≤ (i : Int) := by omega
      have i2 : (i : Int) < (n0 : Int) := by omega
      have HF1 := Lib.hid (HF.out _ _ fr fr wr hV.out.vec_rl)
      go_wp2_with fail
      refine HF1.out.mono ?_
      rintro e w2 ⟨r, rfl, hr, q⟩
      replace hV := Lib.hid (hV.out.below q)
      clear q HF1 z0
      rcases hfs.out fr r hr with ⟨rfl, hnr⟩ | ⟨rfl, hrd⟩
      · have hh : hasL (wyN (nxL L) fr) fr = false := by
          cases hb : hasL (wyN (nxL L) fr) fr with
          | false => rfl
          | true => exact absurd ((hasW_iff _ _ _).1 hb) hnr
        rw [hh, if_neg (by simp)] at hE
        clear hnr hr hh
        go_wp2_with fail
        go_roundg (n0 - (i + 1))
        case measure => omega
        case rel => exact ⟨i + 1, by omega, rfl, by go_num, hE, hV⟩
      · have hh : hasL (wyN (nxL L) fr) fr = true := (hasW_iff _ _ _).2 hrd
        rw [hh, if_pos rfl] at hE
        have hnx := Lib.hid (fun j hj k hk hf hfar hno => far_next hrd j hj k hk hf hfar hno)
        have hhas := Lib.hid (fun j hj => far_has hrd j hj)
        have hc0 := Lib.hid (rs_facts _ _ hrd).2.1
        have hcp := (rs_facts _ _ hrd).1
        have hcm := hcl.out fr
        have hres2 := Lib.hid (show res = ((rsC (nxL L) fr).1, true) from hE.out)
        clear hrd hr hh hE
        generalize (rsC (nxL L) fr).1 = c at *
        obtain ⟨m, hm⟩ : ∃ m, Hid (c.length = m) := ⟨_, rfl⟩
        rw [hm.out] at hcp hcm
        simp only [hm.out] at hnx hhas
        replace hnx := Lib.hid hnx.out
        replace hhas := Lib.hid hhas.out
        have hct := Lib.hid (show [fr] = c.take 1 by
          cases c with
          | nil => have := hm.out; simp at this; omega
          | cons x xs =>
            have := hc0.out
            simp at this
            simp [this])
        rw [hm.out]
        have m1 : ¬ (m : Int) < 0 := by omega
        have hV2 := Lib.hid ((hV.out.alloc #[.int .i64 fr] 3).blk_vec (size := 1) (n := 1) (c := 1) (xs := [fr].map (Value.int .i64)) rfl (Nat.le_refl _) (by decide) rfl rfl)
        rw [hct.out] at hV2
        clear hV
        go_wp2_with fail
        go_loopg [6, 7] m (fun gm s6 s7 W => ∃ (j nn : Nat) (ao : Option Addr) (co : Nat), Hid (nn + j = m) ∧ 0 < nn ∧ gm = nn ∧ s6 = .int .i64 nn ∧ s7 = .slice ao (j + 1) co ∧ Hid (Sep W [vec 3 1 (.slice ao (j + 1) co) (j + 1) ((c.take (j + 1)).map (Value.int .i64)), vec 36 2 (.slice (some ⟨g, 0, none⟩) n0 sc) n0 ((sdE L).flatMap Ed.cells), old w]))
        case atStart => exact ⟨0, m, _, 1, Lib.hid rfl, hcp, rfl, rfl, rfl, hV2⟩
        case round =>
          clear hV2
          obtain ⟨j, nn, ao, co, hjm, hnn, hg2, rfl, rfl, hV⟩ := hrel
          have hnm : nn ≤ 1000 := by have := hjm.out; omega
          by_cases hn1 : 1 < nn
          · obtain ⟨n2, rfl⟩ : ∃ n2, nn = n2 + 1 := ⟨nn - 1, by omega⟩
            have n1 : (1 : Int) < ((n2 + 1 : Nat) : Int) := by omega
            have n1b : 1 < n2 + 1 := hn1
            have n2p : 0 < n2 := by omega
            have hjm2 := hjm.out
            have hjc : j < c.length := by rw [hm.out]; omega
            have hj1c : j + 1 < c.length := by rw [hm.out]; omega
            have hj1 : j + 1 < m := by omega
            have hval : ((m - 1 - j : Nat) : Int) = (n2 : Int) := by omega
            have hjn : j ≤ 1000 := by omega
            obtain ⟨go, cap, cur, hgv, _⟩ := hV.out.gvec.2.resolve_left (by rintro ⟨_, h⟩; omega)
            injection hgv with e1 _ e3
            subst e1 e3
            have hx := Lib.hid (show ((c.take (j + 1)).map (Value.int .i64))[j]? = some (.int .i64 (c.getD j 0)) by
              rw [List.getElem?_map, List.getElem?_take, if_pos (by omega), List.getElem?_eq_getElem hjc]
              simp [List.getD, hjc])
            have zl := (hV.out.vec_cell hx.out).1
            have hct2 := Lib.hid (show c.take (j + 1 + 1) = c.take (j + 1) ++ [c.getD (j + 1) 0] by
              rw [List.take_succ_eq_append_getElem hj1c]
              simp [List.getD, hj1c])
            have hnx2 := Lib.hid (fun k hk hf hfar hno => hnx.out j hj1 k hk hf hfar hno)
            have hhas2 := Lib.hid (hhas.out j hj1)
            rw [hval] at hnx2 hhas2
            replace hnx2 := Lib.hid hnx2.out
            replace hhas2 := Lib.hid hhas2.out
            generalize c.getD j 0 = cj at *
            clear hjm2 hjc hj1c hj1 hval hx
            go_wp2_with fail
            go_loopg [7, 9] n0 (fun gm s7 s9 W => ∃ k : Nat, k ≤ n0 ∧ gm = n0 - k ∧ s7 = .slice (some ⟨go, 0, none⟩) (j + 1) co ∧ s9 = .int .i64 k ∧ Hid (∀ i (hi : i < k) (hi2 : i < (sdE L).length) r, ((sdE L)[i]).from_ = cj → FarIs (sdE L) ((sdE L)[i]).tgt fr r → r ≠ (n2 : Int)) ∧ Hid (Sep W [vec 3 1 (.slice (some ⟨go, 0, none⟩) (j + 1) co) (j + 1) ((c.take (j + 1)).map (Value.int .i64)), vec 36 2 (.slice (some ⟨g, 0, none⟩) n0 sc) n0 ((sdE L).flatMap Ed.cells), old w]))
            case atStart => exact ⟨0, Nat.zero_le _, rfl, rfl, rfl, Lib.hid (fun i hi => by omega), hV⟩
            case round =>
              clear hV zl
              obtain ⟨k, hk, hg3, rfl, rfl, hno, hV⟩ := hrel
              by_cases hkn : k < n0
              · obtain ⟨g', hg', hgb, _, zz, _⟩ := hV.out.to1.vec_at ed_len hn0.out hkn
                injection hg' with hg'
                injection hg' with hg'
                subst hg'
                have hkl : k < (sdE L).length := by rw [hn0.out]; exact hkn
                have hge : (sdE L).getD k default = (sdE L)[k] := by simp [List.getD, hkl]
                rw [hge] at zz
                have y0 := zz 0 _ rfl
                have y1 := zz 1 _ rfl
                rw [Nat.add_zero] at y0
                have hnk := Lib.hid (fun hf hfar => hnx2.out k hkl hf hfar (fun i hi r h1 h2 => hno.out i hi (by omega) r h1 h2))
                have hno2 := Lib.hid (fun (hne : ∀ r, (sdE L)[k].from_ = cj → FarIs (sdE L) (sdE L)[k].tgt fr r → r ≠ (n2 : Int)) i (hi : i < k + 1) (hi2 : i < (sdE L).length) r (h1 : ((sdE L)[i]).from_ = cj) (h2 : FarIs (sdE L) ((sdE L)[i]).tgt fr r) => show r ≠ (n2 : Int) by
                  by_cases hik : i < k
                  · exact hno.out i hik hi2 r h1 h2
                  · obtain rfl : i = k := by omega
                    exact hne r h1 h2)
                clear zz hge
                obtain ⟨f, hf⟩ : ∃ f, (sdE L)[k].from_ = f := ⟨_, rfl⟩
                obtain ⟨t, ht⟩ : ∃ t, (sdE L)[k].tgt = t := ⟨_, rfl⟩
                rw [hf] at y0
                rw [ht] at y1
                simp only [hf, ht] at hnk hno2
                replace hnk := Lib.hid hnk.out
                replace hno2 := Lib.hid hno2.out
                clear hf ht hkl
                have k1 : (0 : Int) ≤ (k : Int) := by omega
                have k2 : (k : Int) < (n0 : Int) := by omega
                by_cases hfc : f = cj
                · subst hfc
                  have HF2 := Lib.hid (HF.out _ _ t fr wr hV.out.to1.vec_rl)
                  go_wp2_with fail
                  refine HF2.out.mono ?_
                  rintro e w4 ⟨r2, rfl, hr2, q⟩
                  replace hV := Lib.hid (hV.out.below q)
                  replace y1 := (q.cell (p := ⟨g, k * 2 + 1, none⟩) hgb).trans y1
                  clear q HF2
                  by_cases hrn : r2 = (n2 : Int)
                  · subst hrn
                    have htc := Lib.hid (hnk.out (by first | rfl | trivial) hr2)
                    clear hr2 hnk hno2
                    go_wp2_with (at_builtin; (refine wpList_append_sep (hV.out.allocG _) rfl _ _ 24 rfl i0 _ 8 Tryz.underlying24 hi0 hz0 hz1 hz2 rfl (by decide) rfl 1 [.int .i64 t] (SrcA.one _ _ _ _) (h1c.out _) (by simp only [maxLen]; omega) (by omega) ?_; intro oa' oc' w5 q2; replace q2 := Lib.hid q2))
                    go_roundg n2
                    case measure => omega
                    case rel => exact ⟨j + 1, n2, oa', oc', Lib.hid (by have := hjm.out; omega), n2p, rfl, by go_num, rfl, Lib.hid (by rw [hct2.out, ← htc.out, List.map_append]; exact q2.out)⟩
                  · have e2 : (r2 == (n2 : Int)) = false := by simp [hrn]
                    have hno3 := Lib.hid (hno2.out (fun r _ h => by rw [farIs_uniq h hr2]; exact hrn))
                    clear hr2 hno2 hnk
                    go_wp2_with fail
                    go_roundg (n0 - (k + 1))
                    case measure => omega
                    case rel => exact ⟨k + 1, by omega, rfl, rfl, by go_num, hno3, hV⟩
                · have e1 : (f == cj) = false := by simp [hfc]
                  have hno3 := Lib.hid (hno2.out (fun r h _ => absurd h hfc))
                  go_wp2_with fail
                  go_roundg (n0 - (k + 1))
                  case measure => omega
                  case rel => exact ⟨k + 1, by omega, rfl, rfl, by go_num, hno3, hV⟩
              · exfalso
                obtain ⟨k', hk', h1, h2⟩ := hhas2.out
                exact hno.out k' (by rw [hn0.out] at hk'; omega) hk' _ h1 h2 rfl
          · have n1 : ¬ (1 : Int) < (nn : Int) := by omega
            have hjm2 := hjm.out
            obtain rfl : j + 1 = m := by omega
            have hcf : c.take (j + 1) = c := by rw [← hm.out, List.take_length]
            rw [hcf] at hV
            have hm2 := hm.out
            have hr3 := hres2.out
            subst hr3
            go_wp2_with fail
            refine bodyPost_ret (v := .tuple #[.slice ao (j + 1) co, .bool true]) (by simp [results, Tryz.results24, go_sem, *]) rfl ⟨ao, co, by simp [hm2], ?_⟩
            have h := hV.out.drop1
            simpa [hm2] using h
    · have hin : i = n0 := by omega
      rw [show (sdE L).drop i = [] by rw [hin, ← hn0.out, List.drop_length]] at hE
      have i2 : ¬ (i : Int) < (n0 : Int) := by omega
      have hE2 := hE.out
      have hE3 : res = ([], false) := hE2
      clear hE hE2
      subst hE3
      go_wp2_with fail
      refine bodyPost_ret (v := .tuple #[.slice none 0 0, .bool false]) (by simp [results, Tryz.results24, go_sem, *]) rfl ⟨none, 0, rfl, hV.out.tail.vec_nil 3 1⟩
end Go.Proofs.YthbamhfnemdebaaGreat
namespace Go.Proofs.YthbamhfnemdebaaGreat
open Go.RowKit
set_option maxHeartbeats 4000000 in
theorem ownE_any (v : Value) (L : List Ed) (w : World) (hv : RL w v 2 L.length (L.flatMap Ed.cells)) (hl : L.length ≤ 1000) :
    Calls Tryz.prog 13 #[v] w fun e w' => ∃ a c, e = .returned (.slice a L.length c) ∧ Sep w' [vec 36 2 (.slice a L.length c) L.length (L.flatMap Ed.cells), old w] := by
  have h1 := Lib.hid (edcells_one L)
  obtain ⟨i0, hi, hz0, hz1, hz2⟩ := info_parts info_ed
  have hE := Lib.hid (fresh_ed w)
  have hS2 := Lib.hid (show SrcA (w.alloc (.cells #[] 36)) 2 v L.length (L.flatMap Ed.cells) from hv.srcA.below ((Below.refl _ _).alloc (Nat.le_refl _) _))
  obtain ⟨_, a, c, rfl, _⟩ := hv
  generalize L.length = n at *
  go_enter Tryz.func13, Tryz.ntmps13
  go_wp2_with (at_builtin; refine wpList_append_sep hE.out rfl _ _ 22 rfl i0 _ 16 Tryz.underlying22 hi hz0 hz1 hz2 rfl (by decide) rfl n (L.flatMap Ed.cells) hS2.out h1.out ?c3 ?c4 ?_)
  case c3 => simp only [maxLen]; omega
  case c4 => omega
  intro a' c' w1 hS1
  replace hS1 := Lib.hid hS1
  go_wp2_with fail
  go_ret
  exact ⟨a', c', rfl, hS1.out⟩
set_option maxHeartbeats 8000000 in
set_option maxRecDepth 100000 in
theorem withoutR_any (v : Value) (L : List Ed) (x : Int) (w : World) (hv : RL w v 2 L.length (L.flatMap Ed.cells)) (hl : L.length ≤ 1000) :
    Calls Tryz.prog 25 #[v, .int .i64 x] w fun e w' => ∃ a c, e = .returned (.slice a (keepL (onE x) L).length c) ∧ Sep w' [vec 36 2 (.slice a (keepL (onE x) L).length c) (keepL (onE x) L).length ((keepL (onE x) L).flatMap Ed.cells), old w] := by
  have hv2 := Lib.hid hv
  obtain ⟨_, va, vp, rfl, _⟩ := hv
  obtain ⟨n0, hn0⟩ : ∃ n0, L.length = n0 := ⟨_, rfl⟩
  rw [hn0] at hv2 hl ⊢
  replace hn0 := Lib.hid hn0
  obtain ⟨i0, hi0, hz0, hz1, hz2⟩ := info_parts info_ed
  have h1c : Hid (∀ x y, ∀ u ∈ ([.int .i64 x, .int .i64 y] : List Value), u.oneCell' = true) := Lib.hid (by simp [Value.oneCell'])
  have hV0 := Lib.hid ((Sep.start w).vec_nil 36 2)
  go_enter Tryz.func25, Tryz.ntmps25
  go_wp2_with fail
  go_loopg [5, 6] n0 (fun gm s5 s6 W => ∃ (i : Nat) (O : List Ed) (ao : Option Addr) (co n : Nat), i ≤ n0 ∧ gm = n0 - i ∧ s5 = .slice ao n co ∧ s6 = .int .i64 i ∧ Hid (O = keepL (onE x) (L.take i)) ∧ Hid (O.length = n) ∧ n ≤ i ∧ Hid (Sep W [vec 36 2 (.slice ao n co) n (O.flatMap Ed.cells), old w]))
  case atStart => exact ⟨0, [], none, 0, 0, Nat.zero_le _, rfl, rfl, rfl, Lib.hid rfl, Lib.hid rfl, Nat.le_refl _, hV0⟩
  case round =>
    clear hV0
    obtain ⟨i, O, ao, co, n, hi, hgm, rfl, rfl, hO, hOn, hni, hV⟩ := hrel
    by_cases hlt : i < n0
    · obtain ⟨b, off, rfl, hb, zz⟩ := cells_ed hv2.out hn0.out (by omega)
      have hil : i < L.length := by rw [hn0.out]; exact hlt
      have z0 := (hV.out.tail.gold.cell (p := ⟨b, off + i * 2, none⟩) hb).trans (zz i _ (List.getElem?_eq_getElem hil) 0 _ rfl)
      have z1 := (hV.out.tail.gold.cell (p := ⟨b, off + i * 2 + 1, none⟩) hb).trans (zz i _ (List.getElem?_eq_getElem hil) 1 _ rfl)
      have hO2 := Lib.hid (show keepL (onE x) (L.take (i + 1)) = O ++ (if onE x L[i] then [] else [L[i]]) by
        rw [List.take_succ_eq_append_getElem hil]
        unfold keepL at hO ⊢
        rw [List.filter_append, hO.out]
        cases h : onE x L[i] <;> simp [h])
      clear zz
      obtain ⟨e, he⟩ : ∃ e, L[i] = e := ⟨_, rfl⟩
      rw [he] at z0 z1 hO2
      clear he hil
      obtain ⟨f, t⟩ := e
      simp only at z0 z1
      have i1 : (0 : Int) ≤ (i : Int) := by omega
      have i2 : (i : Int) < (n0 : Int) := by omega
      have hms := Lib.hid (show n0 - (i + 1) < n0 - i by omega)
      have hon : onE x ⟨f, t⟩ = (f == x || t == x) := rfl
      rw [hon] at hO2
      clear hon
      by_cases h1 : f = x
      · subst h1
        rw [show (f == f || t == f) = true by simp, if_pos rfl, List.append_nil] at hO2
        go_wp2_with fail
        go_roundg (n0 - (i + 1))
        case measure => rw [hgm]; exact hms.out
        case rel => exact ⟨i + 1, O, ao, co, n, by omega, rfl, rfl, by go_num, Lib.hid hO2.out.symm, hOn, by omega, hV⟩
      · by_cases h2 : t = x
        · subst h2
          rw [show (f == t || t == t) = true by simp, if_pos rfl, List.append_nil] at hO2
          have e1 : (f == t) = false := by simp [h1]
          have e3 : (f != t) = true := by simp [h1]
          go_wp2_with fail
          go_roundg (n0 - (i + 1))
          case measure => rw [hgm]; exact hms.out
          case rel => exact ⟨i + 1, O, ao, co, n, by omega, rfl, rfl, by go_num, Lib.hid hO2.out.symm, hOn, by omega, hV⟩
        · have e1 : (f == x) = false := by simp [h1]
          have e2 : (t == x) = false := by simp [h2]
          have e3 : (f != x) = true := by simp [h1]
          have e4 : (t != x) = true := by simp [h2]
          rw [e1, e2, if_neg (by simp)] at hO2
          go_wp2_with (at_builtin; (refine wpList_append_sep (hV.out.allocG _) rfl _ _ 22 rfl i0 _ 16 Tryz.underlying22 hi0 hz0 hz1 hz2 rfl (by decide) rfl 1 [.int .i64 f, .int .i64 t] (srcA_cells _ _ _ _ 2 rfl) (h1c.out _ _) (by simp only [maxLen]; omega) (by omega) ?_; intro oa' oc' w5 q2; replace q2 := Lib.hid q2))
          go_roundg (n0 - (i + 1))
          case measure => rw [hgm]; exact hms.out
          case rel => exact ⟨i + 1, O ++ [⟨f, t⟩], oa', oc', n + 1, by omega, rfl, rfl, by go_num, Lib.hid hO2.out.symm, Lib.hid (by simp [hOn.out]), by omega, Lib.hid (by rw [List.flatMap_append]; exact q2.out)⟩
    · obtain rfl : i = n0 := by omega
      have hfn : O = keepL (onE x) L := by rw [hO.out, ← hn0.out, List.take_length]
      subst hfn
      have hOn2 := hOn.out
      subst hOn2
      have i2 : ¬ (i : Int) < (i : Int) := by omega
      go_wp2_with fail
      go_ret
      exact ⟨ao, co, rfl, hV.out⟩
end Go.Proofs.YthbamhfnemdebaaGreat
