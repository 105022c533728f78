/-
  Contracts and plain laws that the walk leans on, part 21. No condition.
-/
import Derived.Test.YtcnkmhfcgkbhbaaGreatZCl20
namespace Go.Proofs.YtcnkmhfcgkbhbaaGreat
open Go.RowKit
theorem held_two {P : Program} {ops : Array Oper} {Q : Exit → Act → World → Prop} {md : Region.Mode} {S : World → Prop} (i j : Nat) {oi oj : Oper} {fuel : Nat} {listed : Array Bool} {a : Act} {w : World} (hr : Region.ready md ops listed = [i, j]) (hi : ops[i]? = some oi) (hj : ops[j]? = some oj)
    (wi : Region.wanted oi (yielded ops a.tmps) = true) (wj : Region.wanted oj (yielded ops a.tmps) = true)
    (h1 : ∀ K : Act → World → Prop, Hid (∀ a w, S w → wpAnyH P md ops Q S fuel (listed.setIfInBounds i true) a w → K a w) → oi.wp P a w K Q)
    (h2 : ∀ K : Act → World → Prop, Hid (∀ a w, S w → wpAnyH P md ops Q S fuel (listed.setIfInBounds j true) a w → K a w) → oj.wp P a w K Q) : wpAnyH P md ops Q S (fuel + 1) listed a w :=
  wpAnyH_ready hr (by simp) (AllReadyH.cons hi (fun K hK => by
    rw [if_pos wi]
    exact h1 K (fun a w hS hW => hK a w hS (fun _ => hW))) (AllReadyH.cons hj (fun K hK => by
    rw [if_pos wj]
    exact h2 K (fun a w hS hW => hK a w hS (fun _ => hW))) AllReadyH.nil))
theorem src_blk {w : World} {g : Nat} {t : Int} {rs : List Res} {ty : TypeId} (h : Sep w (blk g ty #[.int .i64 t] :: rs)) : SrcA w 1 (.slice (some ⟨g, 0, none⟩) 1 1) 1 [.int .i64 t] := by
  refine .inr ⟨_, _, rfl, rfl, fun j u hu => ?_⟩
  rw [Addr.add_lit]
  cases j with
  | zero => simp at hu; subst hu; exact h.b1.2.1
  | succ j => simp at hu
set_option maxHeartbeats 4000000 in
theorem inR_any (u : Value) (xs : List Int) (x : Int) (w : World) (hu : RI w u xs) (hl : xs.length ≤ 100000) :
    Calls Tryz.prog 31 #[u, .int .i64 x] w fun e w' => e = .returned (.bool (decide (x ∈ xs))) ∧ w' = w := by
  obtain ⟨a, c, rfl, hr⟩ := hu
  have HR := Lib.hid hr
  clear hr
  generalize hn : xs.length = n at *
  replace hn := Lib.hid hn
  go_enter Tryz.func31, Tryz.ntmps31
  go_wp2_with fail
  go_loopg [5] n (fun gm s5 W => ∃ k : Nat, k ≤ n ∧ gm = n - k ∧ s5 = .int .i64 k ∧ Hid (x ∉ xs.take k) ∧ Hid (W = w))
  case atStart => exact ⟨0, Nat.zero_le _, rfl, rfl, Lib.hid (by simp), Lib.hid rfl⟩
  case round =>
    obtain ⟨k, hk, hgm, rfl, hno, hw⟩ := hrel
    obtain rfl := hw.out
    by_cases hlt : k < n
    · obtain ⟨b, off, rfl, _, hc⟩ := HR.out (by omega)
      have z := hc k hlt
      have hkl : k < xs.length := by rw [hn.out]; exact hlt
      have hg : xs.getD k 0 = xs[k] := by simp [List.getD, hkl]
      have htk := Lib.hid (show xs.take (k + 1) = xs.take k ++ [xs.getD k 0] by rw [hg]; exact List.take_succ_eq_append_getElem hkl)
      have hmem := Lib.hid (show xs.getD k 0 ∈ xs by rw [hg]; exact List.getElem_mem _)
      clear hc hg
      generalize xs.getD k 0 = y at *
      have i1 : (0 : Int) ≤ (k : Int) := by omega
      have i2 : (k : Int) < (n : Int) := by omega
      by_cases he : y = x
      · have hd := Lib.hid (show decide (x ∈ xs) = true by rw [← he]; simp [hmem.out])
        have e1 : (y == x) = true := by simp [he]
        go_wp2_with fail
        go_ret
        exact ⟨by rw [hd.out]; rfl, rfl⟩
      · have e1 : (y == x) = false := by simp [he]
        go_wp2_with fail
        go_roundg (n - (k + 1))
        case measure => omega
        case rel => exact ⟨k + 1, by omega, rfl, by go_num, Lib.hid (by
          rw [htk.out, List.mem_append, List.mem_singleton]
          rintro (h | h)
          · exact hno.out h
          · exact he h.symm), Lib.hid rfl⟩
    · have hd := Lib.hid (show decide (x ∈ xs) = false by
        have h := hno.out
        rw [show k = n by omega, ← hn.out, List.take_length] at h
        simp [h])
      go_wp2_with fail
      go_ret
      exact ⟨by rw [hd.out]; rfl, rfl⟩
set_option maxHeartbeats 16000000 in
set_option maxRecDepth 100000 in
theorem farR_any (v : Value) (L : List Ed) (fr tgt : Int) (w : World) (hv : RL w v 2 L.length (L.flatMap Ed.cells)) (hl : L.length ≤ 1000) :
    Calls Tryz.prog 24 #[v, .int .i64 fr, .int .i64 tgt] w fun e w' => ∃ r, e = .returned (.int .i64 r) ∧ FarIs L fr tgt r ∧ Below w.heap.size w w' := by
  have hv2 := Lib.hid hv
  obtain ⟨_, va, vp, rfl, _⟩ := hv
  obtain ⟨n0, hn0⟩ : ∃ n0, Hid (L.length = n0) := ⟨_, rfl⟩
  rw [hn0.out] at hv2 hl
  obtain ⟨i0, hi0, hz0, hz1, hz2⟩ := info_parts info_int
  have h1c : Hid (∀ x, ∀ u ∈ ([.int .i64 x] : List Value), u.oneCell' = true) := Lib.hid (by simp [Value.oneCell'])
  have hJ0 := Lib.hid (farJ_start L fr tgt)
  have hS0 := Lib.hid (((Sep.start w).alloc #[.int .i64 fr] 3).alloc #[] 3)
  have hV0 := Lib.hid (hS0.out.to1.blk_vec (size := 1) (n := 1) (c := 1) (xs := [fr].map (Value.int .i64)) rfl (Nat.le_refl _) (by decide) rfl rfl)
  replace hV0 := Lib.hid (hV0.out.to1.blk_vec (size := 1) (n := 0) (c := 0) (xs := ([] : List Int).map (Value.int .i64)) rfl (Nat.le_refl _) (by decide) rfl rfl)
  clear hS0
  simp only [World.size_alloc] at hV0
  go_enter Tryz.func24, Tryz.ntmps24
  go_wp2_with fail
  go_loopg [7, 8, 9] (2 * n0 + 1) (fun gm s7 s8 s9 W => ∃ (now sn : List Int) (n nn ns : Nat) (aN aS : Option Addr) (cN cS : Nat), gm = 2 * (n0 - ns) + (if nn = 0 then 0 else 1) ∧ s7 = .slice aN nn cN ∧ s8 = .slice aS ns cS ∧ s9 = .int .i64 n ∧ Hid (now.length = nn) ∧ Hid (sn.length = ns) ∧ Hid (FarJ L fr tgt now sn n) ∧ Hid (sn.Nodup ∧ ∀ x ∈ sn, x ∈ L.map (·.tgt)) ∧ ns ≤ n0 ∧ nn ≤ n0 + 1 ∧ n ≤ ns + 2 ∧ (0 < nn → n ≤ ns + 1) ∧ Hid (Sep W [vec 3 1 (.slice aS ns cS) ns (sn.map (Value.int .i64)), vec 3 1 (.slice aN nn cN) nn (now.map (Value.int .i64)), old w]))
  case atStart => exact ⟨[fr], [], 1, 1, 0, _, _, 1, 0, by simp, rfl, rfl, rfl, Lib.hid rfl, Lib.hid rfl, hJ0, Lib.hid (by simp), by omega, by omega, by omega, fun _ => by omega, hV0⟩
  case round =>
    clear hV0 hJ0
    obtain ⟨now, sn, n, nn, ns, aN, aS, cN, cS, hgm, rfl, rfl, rfl, hnn, hns, hJ, hok, hns0, hnn0, hn2, hn3, hV⟩ := hrel
    by_cases h0 : nn = 0
    · subst h0
      have hend := Lib.hid (show FarIs L fr tgt (-1) by
        refine .inl ⟨rfl, ?_⟩
        have hJ2 := hJ.out
        rw [List.eq_nil_of_length_eq_zero hnn.out] at hJ2
        exact farJ_end hJ2)
      go_wp2_with fail
      go_ret
      exact ⟨-1, rfl, hend.out, hV.out.tail.tail.gold⟩
    · have h0p : (0 : Int) < (nn : Int) := by omega
      have h0n : 0 < nn := by omega
      have h0d : decide (0 < nn) = true := by simp [h0n]
      have hn3' := hn3 (by omega)
      rw [if_neg h0] at hgm
      replace hV := Lib.hid (hV.out.vec_nil 3 1)
      go_wp2_with fail
      go_loopg [8, 10, 11] n0 (fun gm s8 s10 s11 W => ∃ (i : Nat) (sn2 nx : List Int) (ns2 nx2 : Nat) (aS aX : Option Addr) (cS cX : Nat), i ≤ n0 ∧ gm = n0 - i ∧ s8 = .slice aS ns2 cS ∧ s10 = .slice aX nx2 cX ∧ s11 = .int .i64 i ∧ Hid (sn2.length = ns2) ∧ Hid (nx.length = nx2) ∧ Hid (farI now tgt L sn [] = farI now tgt (L.drop i) sn2 nx) ∧ Hid (sn2.Nodup ∧ ∀ x ∈ sn2, x ∈ L.map (·.tgt)) ∧ ns2 ≤ n0 ∧ Hid (ns2 = ns + nx2) ∧ Hid (Sep W [vec 3 1 (.slice aS ns2 cS) ns2 (sn2.map (Value.int .i64)), vec 3 1 (.slice aX nx2 cX) nx2 (nx.map (Value.int .i64)), vec 3 1 (.slice aN nn cN) nn (now.map (Value.int .i64)), old w]))
      case atStart => exact ⟨0, sn, [], ns, 0, aS, none, cS, 0, Nat.zero_le _, rfl, rfl, rfl, rfl, hns, Lib.hid rfl, Lib.hid rfl, hok, hns0, Lib.hid rfl, Lib.hid hV.out.to1⟩
      case round =>
        clear hV
        obtain ⟨i, sn2, nx, ns2, nx2, aS, aX, cS, cX, hi, hg2, rfl, rfl, rfl, hs2, hx2, hF, hok2, hs20, hsx, hV⟩ := hrel
        by_cases hlt : i < n0
        · obtain ⟨b, off, rfl, hb, zz⟩ := cells_ed hv2.out hn0.out (by omega)
          have hil : i < L.length := by rw [hn0.out]; exact hlt
          have c0 : w.cell? ⟨b, off + i * 2, none⟩ = some (.int .i64 L[i].from_) := zz i _ (List.getElem?_eq_getElem hil) 0 _ rfl
          have c1 : w.cell? ⟨b, off + i * 2 + 1, none⟩ = some (.int .i64 L[i].tgt) := zz i _ (List.getElem?_eq_getElem hil) 1 _ rfl
          have hdr := Lib.hid (List.drop_eq_getElem_cons hil)
          have hmt := Lib.hid (show L[i].tgt ∈ L.map (·.tgt) from List.mem_map.2 ⟨_, List.getElem_mem hil, rfl⟩)
          rw [hdr.out] at hF
          clear zz hdr
          obtain ⟨e, he⟩ : ∃ e, L[i] = e := ⟨_, rfl⟩
          rw [he] at c0 c1 hF hmt
          clear he
          have hil3 : (i : Int) < (L.length : Int) := by omega
          obtain ⟨f, t⟩ := e
          simp only at c0 c1 hmt
          have g0 := (hV.out.tail.tail.tail.gold.cell (p := ⟨b, off + i * 2, none⟩) hb).trans c0
          have g1 := (hV.out.tail.tail.tail.gold.cell (p := ⟨b, off + i * 2 + 1, none⟩) hb).trans c1
          have k1 : (0 : Int) ≤ (i : Int) := by omega
          have k2 : (i : Int) < (n0 : Int) := by omega
          have hms := Lib.hid (show n0 - (i + 1) < n0 - i by omega)
          have HIn := Lib.hid (fun W h => inR_any (.slice aN nn cN) now f W h (by rw [hnn.out]; omega))
          have HIs := Lib.hid (fun W h => inR_any (.slice aS ns2 cS) sn2 t W h (by rw [hs2.out]; omega))
          have hnx := Lib.hid (show farI now tgt (⟨f, t⟩ :: L.drop (i + 1)) sn2 nx = if f ∉ now ∨ t ∈ sn2 then farI now tgt (L.drop (i + 1)) sn2 nx else if t = tgt then none else farI now tgt (L.drop (i + 1)) (sn2 ++ [t]) (nx ++ [t]) by conv => lhs; unfold farI)
          rw [hnx.out] at hF
          clear hnx
          by_cases hfn : f ∈ now
          · by_cases hts : t ∈ sn2
            · rw [if_pos (.inr hts)] at hF
              rw [decide_eq_true hfn] at HIn
              rw [decide_eq_true hts] at HIs
              clear hfn hts
              go_wp2_with fail
              refine (HIn.out _ hV.out.to2.vec_ri).mono ?_
              rintro e w3 ⟨rfl, rfl⟩
              go_wp2_with fail
              refine (HIs.out _ hV.out.vec_ri).mono ?_
              rintro e w4 ⟨rfl, rfl⟩
              go_wp2_with fail
              go_roundg (n0 - (i + 1))
              case measure => omega
              case rel => exact ⟨i + 1, sn2, nx, ns2, nx2, aS, aX, cS, cX, by omega, rfl, rfl, rfl, by go_num, hs2, hx2, hF, hok2, hs20, hsx, hV⟩
            · rw [if_neg (fun h => h.elim (fun h => h hfn) hts)] at hF
              rw [decide_eq_true hfn] at HIn
              rw [decide_eq_false hts] at HIs
              by_cases htt : t = tgt
              · rw [if_pos htt] at hF
                have hmet := Lib.hid (farIs_met hJ.out hF.out)
                clear hfn hts hF
                subst htt
                go_wp2_with fail
                refine (HIn.out _ hV.out.to2.vec_ri).mono ?_
                rintro e w3 ⟨rfl, rfl⟩
                go_wp2_with fail
                refine (HIs.out _ hV.out.vec_ri).mono ?_
                rintro e w4 ⟨rfl, rfl⟩
                go_wp2_with fail
                go_ret
                exact ⟨(n : Int), rfl, hmet.out, hV.out.tail.tail.tail.gold⟩
              · rw [if_neg htt] at hF
                have e1 : (t == tgt) = false := by simp [htt]
                have hok3 := Lib.hid (show (sn2 ++ [t]).Nodup ∧ ∀ x ∈ sn2 ++ [t], x ∈ L.map (·.tgt) by
                  refine ⟨?_, fun x hx => ?_⟩
                  · rw [List.nodup_append]
                    refine ⟨hok2.out.1, by simp, fun a ha b hb => ?_⟩
                    simp only [List.mem_singleton] at hb
                    subst hb
                    exact fun h => hts (h ▸ ha)
                  · rcases List.mem_append.1 hx with hx | hx
                    · exact hok2.out.2 x hx
                    · simp only [List.mem_singleton] at hx
                      rw [hx]
                      exact hmt.out)
                have hlen := Lib.hid (show ns2 + 1 ≤ n0 ∧ n0 ≤ 1000 by
                  have h := nodup_len _ _ hok3.out.1 hok3.out.2
                  simp only [List.length_append, List.length_map, List.length_cons, List.length_nil, hs2.out, hn0.out] at h
                  exact ⟨h, hl⟩)
                clear hfn hts
                go_wp2_with fail
                refine (HIn.out _ hV.out.to2.vec_ri).mono ?_
                rintro e w3 ⟨rfl, rfl⟩
                go_wp2_with fail
                refine (HIs.out _ hV.out.vec_ri).mono ?_
                rintro e w4 ⟨rfl, rfl⟩
                go_wp2_with fail
                have hT := Lib.hid hV.out.drew
                have hS := Lib.hid (show (fun W : World => Sep W [old w]) _ from (show Sep _ [old w] from hT.out.tail.tail.tail))
                refine held_begin (fun W : World => Sep W [old w]) (by kernel_rfl) hS.out ?_
                change wpAnyH _ _ _ _ _ 18 _ _ (World.drew _)
                clear hV
                generalize World.drew _ = wd at *
                refine held_take 0 ?w901 rfl (by kernel_rfl) (by kernel_rfl) (by kernel_rfl) (fun _ _ _ _ _ h => h) (by kernel_rfl) hS.out ?x901 ?z901
                case x901 => intro W hW; skip; replace hW := Lib.hid hW; go_simp; try rfl
                case z901 =>
                simp only [Act.put, List.setIfInBounds_toArray, List.set_cons_succ, List.set_cons_zero, List.getElem_toArray, List.getElem_cons_zero, List.getElem_cons_succ]
                refine held_take 1 ?w902 rfl (by kernel_rfl) (by kernel_rfl) (by kernel_rfl) (fun _ _ _ _ _ h => h) (by kernel_rfl) hS.out ?x902 ?z902
                case x902 => intro W hW; skip; replace hW := Lib.hid hW; go_simp; try rfl
                case z902 =>
                simp only [Act.put, List.setIfInBounds_toArray, List.set_cons_succ, List.set_cons_zero, List.getElem_toArray, List.getElem_cons_zero, List.getElem_cons_succ]
                refine held_take 2 ?w903 rfl (by kernel_rfl) (by kernel_rfl) (by kernel_rfl) (fun _ _ _ _ _ h => h) (by kernel_rfl) hS.out ?x903 ?z903
                case x903 => intro W hW; skip; replace hW := Lib.hid hW; go_simp; try rfl
                case z903 =>
                simp only [Act.put, List.setIfInBounds_toArray, List.set_cons_succ, List.set_cons_zero, List.getElem_toArray, List.getElem_cons_zero, List.getElem_cons_succ]
                refine held_take 3 ?w904 rfl (by kernel_rfl) (by kernel_rfl) (by kernel_rfl) (fun _ _ _ _ _ h => h) (by kernel_rfl) hS.out ?x904 ?z904
                case x904 => intro W hW; skip; replace hW := Lib.hid hW; go_simp; try rfl
                case z904 =>
                simp only [Act.put, List.setIfInBounds_toArray, List.set_cons_succ, List.set_cons_zero, List.getElem_toArray, List.getElem_cons_zero, List.getElem_cons_succ]
                refine held_take 4 ?w905 rfl (by kernel_rfl) (by kernel_rfl) (by kernel_rfl) (fun _ _ _ _ _ h => h) (by kernel_rfl) hS.out ?x905 ?z905
                case x905 => intro W hW; skip; replace hW := Lib.hid hW; go_simp; try rfl
                case z905 =>
                simp only [Act.put, List.setIfInBounds_toArray, List.set_cons_succ, List.set_cons_zero, List.getElem_toArray, List.getElem_cons_zero, List.getElem_cons_succ]
                refine held_take 5 ?w906 rfl (by kernel_rfl) (by kernel_rfl) (by kernel_rfl) (fun _ _ _ _ _ h => h) (by kernel_rfl) hS.out ?x906 ?z906
                case x906 => intro W hW; have y1 := ((show Sep W [old w] from hW).gold.cell (p := ⟨b, off + i * 2 + 1, none⟩) hb).trans c1; replace hW := Lib.hid hW; go_simp; try rfl
                case z906 =>
                simp only [Act.put, List.setIfInBounds_toArray, List.set_cons_succ, List.set_cons_zero, List.getElem_toArray, List.getElem_cons_zero, List.getElem_cons_succ]
                refine held_take 8 ?w907 rfl (by kernel_rfl) (by kernel_rfl) (by kernel_rfl) (fun _ _ _ _ _ h => h) (by kernel_rfl) hS.out ?x907 ?z907
                case x907 => intro W hW; skip; replace hW := Lib.hid hW; go_simp; try rfl
                case z907 =>
                simp only [Act.put, List.setIfInBounds_toArray, List.set_cons_succ, List.set_cons_zero, List.getElem_toArray, List.getElem_cons_zero, List.getElem_cons_succ]
                refine held_take 9 ?w908 rfl (by kernel_rfl) (by kernel_rfl) (by kernel_rfl) (fun _ _ _ _ _ h => h) (by kernel_rfl) hS.out ?x908 ?z908
                case x908 => intro W hW; skip; replace hW := Lib.hid hW; go_simp; try rfl
                case z908 =>
                simp only [Act.put, List.setIfInBounds_toArray, List.set_cons_succ, List.set_cons_zero, List.getElem_toArray, List.getElem_cons_zero, List.getElem_cons_succ]
                refine held_take 10 ?w909 rfl (by kernel_rfl) (by kernel_rfl) (by kernel_rfl) (fun _ _ _ _ _ h => h) (by kernel_rfl) hS.out ?x909 ?z909
                case x909 => intro W hW; skip; replace hW := Lib.hid hW; go_simp; try rfl
                case z909 =>
                simp only [Act.put, List.setIfInBounds_toArray, List.set_cons_succ, List.set_cons_zero, List.getElem_toArray, List.getElem_cons_zero, List.getElem_cons_succ]
                refine held_take 11 ?w910 rfl (by kernel_rfl) (by kernel_rfl) (by kernel_rfl) (fun _ _ _ _ _ h => h) (by kernel_rfl) hS.out ?x910 ?z910
                case x910 => intro W hW; skip; replace hW := Lib.hid hW; go_simp; try rfl
                case z910 =>
                simp only [Act.put, List.setIfInBounds_toArray, List.set_cons_succ, List.set_cons_zero, List.getElem_toArray, List.getElem_cons_zero, List.getElem_cons_succ]
                refine held_take 12 ?w911 rfl (by kernel_rfl) (by kernel_rfl) (by kernel_rfl) (fun _ _ _ _ _ h => h) (by kernel_rfl) hS.out ?x911 ?z911
                case x911 => intro W hW; skip; replace hW := Lib.hid hW; go_simp; try rfl
                case z911 =>
                simp only [Act.put, List.setIfInBounds_toArray, List.set_cons_succ, List.set_cons_zero, List.getElem_toArray, List.getElem_cons_zero, List.getElem_cons_succ]
                refine held_take 13 ?w912 rfl (by kernel_rfl) (by kernel_rfl) (by kernel_rfl) (fun _ _ _ _ _ h => h) (by kernel_rfl) hS.out ?x912 ?z912
                case x912 => intro W hW; have y1 := ((show Sep W [old w] from hW).gold.cell (p := ⟨b, off + i * 2 + 1, none⟩) hb).trans c1; replace hW := Lib.hid hW; go_simp; try rfl
                case z912 =>
                simp only [Act.put, List.setIfInBounds_toArray, List.set_cons_succ, List.set_cons_zero, List.getElem_toArray, List.getElem_cons_zero, List.getElem_cons_succ]
                refine held_two 6 14 (by kernel_rfl) rfl rfl (by kernel_rfl) (by kernel_rfl) (fun K hK => ?_) (fun K hK => ?_)
                · go_simp
                  have hT2 := hT.out.alloc #[.int .i64 t] 3
                  (try simp only [World.size_alloc] at hT2)
                  replace hT := Lib.hid hT2
                  clear hT2
                  replace hS := Lib.hid (show Sep _ [old w] from hT.out.tail.tail.tail.tail)
                  refine hK.out _ _ hS.out ?_
                  clear hK K
                  try simp only [Act.put, List.setIfInBounds_toArray, List.set_cons_succ, List.set_cons_zero, List.getElem_toArray, List.getElem_cons_zero, List.getElem_cons_succ]
                  refine held_two 7 14 (by kernel_rfl) rfl rfl (by kernel_rfl) (by kernel_rfl) (fun K hK => ?_) (fun K hK => ?_)
                  · refine wp_append_sep (hT.out.bring 1 rfl) (.tmp 51) (.tmp 57) 25 (by rfl) i0 _ 8 Tryz.underlying25 hi0 hz0 hz1 hz2 rfl (by decide) (by rfl) 1 [.int .i64 t] (by exact src_blk (hT.out.bring 0 rfl)) (h1c.out _) ?c913 ?d913 ?_
                    case c913 => have := hlen.out; have := hsx.out; simp only [maxLen]; omega
                    case d913 => have := hlen.out; have := hsx.out; omega
                    intro sa sc sw q
                    replace hT := Lib.hid q
                    clear q
                    replace hS := Lib.hid (show Sep _ [old w] from hT.out.tail.tail.tail.tail)
                    refine hK.out _ _ hS.out ?_
                    clear hK K
                    try simp only [Act.put, List.setIfInBounds_toArray, List.set_cons_succ, List.set_cons_zero, List.getElem_toArray, List.getElem_cons_zero, List.getElem_cons_succ]
                    refine held_one 14 (by kernel_rfl) rfl (by kernel_rfl) (fun K hK => ?_)
                    go_simp
                    have hT2 := hT.out.alloc #[.int .i64 t] 3
                    (try simp only [World.size_alloc] at hT2)
                    replace hT := Lib.hid hT2
                    clear hT2
                    replace hS := Lib.hid (show Sep _ [old w] from hT.out.tail.tail.tail.tail.tail)
                    refine hK.out _ _ hS.out ?_
                    clear hK K
                    try simp only [Act.put, List.setIfInBounds_toArray, List.set_cons_succ, List.set_cons_zero, List.getElem_toArray, List.getElem_cons_zero, List.getElem_cons_succ]
                    refine held_one 15 (by kernel_rfl) rfl (by kernel_rfl) (fun K hK => ?_)
                    refine wp_append_sep (hT.out.bring 3 rfl) (.tmp 59) (.tmp 65) 25 (by rfl) i0 _ 8 Tryz.underlying25 hi0 hz0 hz1 hz2 rfl (by decide) (by rfl) 1 [.int .i64 t] (by exact src_blk (hT.out.bring 0 rfl)) (h1c.out _) ?c914 ?d914 ?_
                    case c914 => have := hlen.out; have := hsx.out; simp only [maxLen]; omega
                    case d914 => have := hlen.out; have := hsx.out; omega
                    intro xa xc xw q
                    replace hT := Lib.hid q
                    clear q
                    replace hS := Lib.hid (show Sep _ [old w] from hT.out.tail.tail.tail.tail.tail)
                    refine hK.out _ _ hS.out ?_
                    clear hK K
                    try simp only [Act.put, List.setIfInBounds_toArray, List.set_cons_succ, List.set_cons_zero, List.getElem_toArray, List.getElem_cons_zero, List.getElem_cons_succ]
                    refine held_take 16 ?w919 rfl (by kernel_rfl) (by kernel_rfl) (by kernel_rfl) (fun _ _ _ _ _ h => h) (by kernel_rfl) hS.out ?x919 ?z919
                    case x919 => intro W hW; skip; replace hW := Lib.hid hW; go_simp; try rfl
                    case z919 =>
                    simp only [Act.put, List.setIfInBounds_toArray, List.set_cons_succ, List.set_cons_zero, List.getElem_toArray, List.getElem_cons_zero, List.getElem_cons_succ]
                    refine held_take 17 ?w920 rfl (by kernel_rfl) (by kernel_rfl) (by kernel_rfl) (fun _ _ _ _ _ h => h) (by kernel_rfl) hS.out ?x920 ?z920
                    case x920 => intro W hW; skip; replace hW := Lib.hid hW; go_simp; try rfl
                    case z920 =>
                    simp only [Act.put, List.setIfInBounds_toArray, List.set_cons_succ, List.set_cons_zero, List.getElem_toArray, List.getElem_cons_zero, List.getElem_cons_succ]
                    refine wpAnyH_done (by kernel_rfl) ?_ _
                    go_wp2_with fail
                    go_roundg (n0 - (i + 1))
                    case measure => rw [hg2]; exact hms.out
                    case rel => exact ⟨i + 1, sn2 ++ [t], nx ++ [t], ns2 + 1, nx2 + 1, sa, xa, sc, xc, by omega, rfl, rfl, rfl, by go_num, Lib.hid (by simp [hs2.out]), Lib.hid (by simp [hx2.out]), hF, hok3, hlen.out.1, Lib.hid (by rw [hsx.out]; omega), Lib.hid (by rw [List.map_append, List.map_append]; exact (((((hT.out.bring 4 rfl).bring 1 rfl).bring 3 rfl).bring 3 rfl).tail.bring 3 rfl).tail)⟩
                  · go_simp
                    have hT2 := hT.out.alloc #[.int .i64 t] 3
                    (try simp only [World.size_alloc] at hT2)
                    replace hT := Lib.hid hT2
                    clear hT2
                    replace hS := Lib.hid (show Sep _ [old w] from hT.out.tail.tail.tail.tail.tail)
                    refine hK.out _ _ hS.out ?_
                    clear hK K
                    try simp only [Act.put, List.setIfInBounds_toArray, List.set_cons_succ, List.set_cons_zero, List.getElem_toArray, List.getElem_cons_zero, List.getElem_cons_succ]
                    refine held_one 7 (by kernel_rfl) rfl (by kernel_rfl) (fun K hK => ?_)
                    refine wp_append_sep (hT.out.bring 2 rfl) (.tmp 51) (.tmp 57) 25 (by rfl) i0 _ 8 Tryz.underlying25 hi0 hz0 hz1 hz2 rfl (by decide) (by rfl) 1 [.int .i64 t] (by exact src_blk (hT.out.bring 1 rfl)) (h1c.out _) ?c915 ?d915 ?_
                    case c915 => have := hlen.out; have := hsx.out; simp only [maxLen]; omega
                    case d915 => have := hlen.out; have := hsx.out; omega
                    intro sa sc sw q
                    replace hT := Lib.hid q
                    clear q
                    replace hS := Lib.hid (show Sep _ [old w] from hT.out.tail.tail.tail.tail.tail)
                    refine hK.out _ _ hS.out ?_
                    clear hK K
                    try simp only [Act.put, List.setIfInBounds_toArray, List.set_cons_succ, List.set_cons_zero, List.getElem_toArray, List.getElem_cons_zero, List.getElem_cons_succ]
                    refine held_one 15 (by kernel_rfl) rfl (by kernel_rfl) (fun K hK => ?_)
                    refine wp_append_sep (hT.out.bring 3 rfl) (.tmp 59) (.tmp 65) 25 (by rfl) i0 _ 8 Tryz.underlying25 hi0 hz0 hz1 hz2 rfl (by decide) (by rfl) 1 [.int .i64 t] (by exact src_blk (hT.out.bring 1 rfl)) (h1c.out _) ?c916 ?d916 ?_
                    case c916 => have := hlen.out; have := hsx.out; simp only [maxLen]; omega
                    case d916 => have := hlen.out; have := hsx.out; omega
                    intro xa xc xw q
                    replace hT := Lib.hid q
                    clear q
                    replace hS := Lib.hid (show Sep _ [old w] from hT.out.tail.tail.tail.tail.tail)
                    refine hK.out _ _ hS.out ?_
                    clear hK K
                    try simp only [Act.put, List.setIfInBounds_toArray, List.set_cons_succ, List.set_cons_zero, List.getElem_toArray, List.getElem_cons_zero, List.getElem_cons_succ]
                    refine held_take 16 ?w921 rfl (by kernel_rfl) (by kernel_rfl) (by kernel_rfl) (fun _ _ _ _ _ h => h) (by kernel_rfl) hS.out ?x921 ?z921
                    case x921 => intro W hW; skip; replace hW := Lib.hid hW; go_simp; try rfl
                    case z921 =>
                    simp only [Act.put, List.setIfInBounds_toArray, List.set_cons_succ, List.set_cons_zero, List.getElem_toArray, List.getElem_cons_zero, List.getElem_cons_succ]
                    refine held_take 17 ?w922 rfl (by kernel_rfl) (by kernel_rfl) (by kernel_rfl) (fun _ _ _ _ _ h => h) (by kernel_rfl) hS.out ?x922 ?z922
                    case x922 => intro W hW; skip; replace hW := Lib.hid hW; go_simp; try rfl
                    case z922 =>
                    simp only [Act.put, List.setIfInBounds_toArray, List.set_cons_succ, List.set_cons_zero, List.getElem_toArray, List.getElem_cons_zero, List.getElem_cons_succ]
                    refine wpAnyH_done (by kernel_rfl) ?_ _
                    go_wp2_with fail
                    go_roundg (n0 - (i + 1))
                    case measure => rw [hg2]; exact hms.out
                    case rel => exact ⟨i + 1, sn2 ++ [t], nx ++ [t], ns2 + 1, nx2 + 1, sa, xa, sc, xc, by omega, rfl, rfl, rfl, by go_num, Lib.hid (by simp [hs2.out]), Lib.hid (by simp [hx2.out]), hF, hok3, hlen.out.1, Lib.hid (by rw [hsx.out]; omega), Lib.hid (by rw [List.map_append, List.map_append]; exact (((((hT.out.bring 4 rfl).bring 1 rfl).bring 2 rfl).bring 3 rfl).tail.bring 3 rfl).tail)⟩
                · go_simp
                  have hT2 := hT.out.alloc #[.int .i64 t] 3
                  (try simp only [World.size_alloc] at hT2)
                  replace hT := Lib.hid hT2
                  clear hT2
                  replace hS := Lib.hid (show Sep _ [old w] from hT.out.tail.tail.tail.tail)
                  refine hK.out _ _ hS.out ?_
                  clear hK K
                  try simp only [Act.put, List.setIfInBounds_toArray, List.set_cons_succ, List.set_cons_zero, List.getElem_toArray, List.getElem_cons_zero, List.getElem_cons_succ]
                  refine held_one 6 (by kernel_rfl) rfl (by kernel_rfl) (fun K hK => ?_)
                  go_simp
                  have hT2 := hT.out.alloc #[.int .i64 t] 3
                  (try simp only [World.size_alloc] at hT2)
                  replace hT := Lib.hid hT2
                  clear hT2
                  replace hS := Lib.hid (show Sep _ [old w] from hT.out.tail.tail.tail.tail.tail)
                  refine hK.out _ _ hS.out ?_
                  clear hK K
                  try simp only [Act.put, List.setIfInBounds_toArray, List.set_cons_succ, List.set_cons_zero, List.getElem_toArray, List.getElem_cons_zero, List.getElem_cons_succ]
                  refine held_one 7 (by kernel_rfl) rfl (by kernel_rfl) (fun K hK => ?_)
                  refine wp_append_sep (hT.out.bring 2 rfl) (.tmp 51) (.tmp 57) 25 (by rfl) i0 _ 8 Tryz.underlying25 hi0 hz0 hz1 hz2 rfl (by decide) (by rfl) 1 [.int .i64 t] (by exact src_blk (hT.out.bring 0 rfl)) (h1c.out _) ?c917 ?d917 ?_
                  case c917 => have := hlen.out; have := hsx.out; simp only [maxLen]; omega
                  case d917 => have := hlen.out; have := hsx.out; omega
                  intro sa sc sw q
                  replace hT := Lib.hid q
                  clear q
                  replace hS := Lib.hid (show Sep _ [old w] from hT.out.tail.tail.tail.tail.tail)
                  refine hK.out _ _ hS.out ?_
                  clear hK K
                  try simp only [Act.put, List.setIfInBounds_toArray, List.set_cons_succ, List.set_cons_zero, List.getElem_toArray, List.getElem_cons_zero, List.getElem_cons_succ]
                  refine held_one 15 (by kernel_rfl) rfl (by kernel_rfl) (fun K hK => ?_)
                  refine wp_append_sep (hT.out.bring 3 rfl) (.tmp 59) (.tmp 65) 25 (by rfl) i0 _ 8 Tryz.underlying25 hi0 hz0 hz1 hz2 rfl (by decide) (by rfl) 1 [.int .i64 t] (by exact src_blk (hT.out.bring 2 rfl)) (h1c.out _) ?c918 ?d918 ?_
                  case c918 => have := hlen.out; have := hsx.out; simp only [maxLen]; omega
                  case d918 => have := hlen.out; have := hsx.out; omega
                  intro xa xc xw q
                  replace hT := Lib.hid q
                  clear q
                  replace hS := Lib.hid (show Sep _ [old w] from hT.out.tail.tail.tail.tail.tail)
                  refine hK.out _ _ hS.out ?_
                  clear hK K
                  try simp only [Act.put, List.setIfInBounds_toArray, List.set_cons_succ, List.set_cons_zero, List.getElem_toArray, List.getElem_cons_zero, List.getElem_cons_succ]
                  refine held_take 16 ?w923 rfl (by kernel_rfl) (by kernel_rfl) (by kernel_rfl) (fun _ _ _ _ _ h => h) (by kernel_rfl) hS.out ?x923 ?z923
                  case x923 => intro W hW; skip; replace hW := Lib.hid hW; go_simp; try rfl
                  case z923 =>
                  simp only [Act.put, List.setIfInBounds_toArray, List.set_cons_succ, List.set_cons_zero, List.getElem_toArray, List.getElem_cons_zero, List.getElem_cons_succ]
                  refine held_take 17 ?w924 rfl (by kernel_rfl) (by kernel_rfl) (by kernel_rfl) (fun _ _ _ _ _ h => h) (by kernel_rfl) hS.out ?x924 ?z924
                  case x924 => intro W hW; skip; replace hW := Lib.hid hW; go_simp; try rfl
                  case z924 =>
                  simp only [Act.put, List.setIfInBounds_toArray, List.set_cons_succ, List.set_cons_zero, List.getElem_toArray, List.getElem_cons_zero, List.getElem_cons_succ]
                  refine wpAnyH_done (by kernel_rfl) ?_ _
                  go_wp2_with fail
                  go_roundg (n0 - (i + 1))
                  case measure => rw [hg2]; exact hms.out
                  case rel => exact ⟨i + 1, sn2 ++ [t], nx ++ [t], ns2 + 1, nx2 + 1, sa, xa, sc, xc, by omega, rfl, rfl, rfl, by go_num, Lib.hid (by simp [hs2.out]), Lib.hid (by simp [hx2.out]), hF, hok3, hlen.out.1, Lib.hid (by rw [hsx.out]; omega), Lib.hid (by rw [List.map_append, List.map_append]; exact (((((hT.out.bring 4 rfl).bring 1 rfl).bring 2 rfl).bring 3 rfl).tail.bring 3 rfl).tail)⟩
          · rw [if_pos (.inl hfn)] at hF
            rw [decide_eq_false hfn] at HIn
            clear hfn
            go_wp2_with fail
            refine (HIn.out _ hV.out.to2.vec_ri).mono ?_
            rintro e w3 ⟨rfl, rfl⟩
            go_wp2_with fail
            go_roundg (n0 - (i + 1))
            case measure => omega
            case rel => exact ⟨i + 1, sn2, nx, ns2, nx2, aS, aX, cS, cX, by omega, rfl, rfl, rfl, by go_num, hs2, hx2, hF, hok2, hs20, hsx, hV⟩
        · have hin : i = n0 := by omega
          have hil3 : ¬ (i : Int) < (L.length : Int) := by rw [hn0.out]; omega
          have hil4 : ¬ i < L.length := by omega
          have hF2 := Lib.hid (show farI now tgt L sn [] = some (sn2, nx) by rw [hF.out, List.drop_eq_nil_of_le (by rw [hn0.out]; omega)]; rfl)
          have hJ2 := Lib.hid (farJ_step hJ.out hF2.out)
          go_wp2_with fail
          go_roundg (2 * (n0 - ns2) + (if nx2 = 0 then 0 else 1))
          case measure =>
            have h := hsx.out
            split <;> omega
          case rel => exact ⟨nx, sn2, n + 1, nx2, ns2, aX, aS, cX, cS, rfl, rfl, rfl, by go_num, hx2, hs2, hJ2, hok2, hs20, by have h := hsx.out; omega, by have h := hsx.out; omega, fun h5 => by have h := hsx.out; omega, Lib.hid hV.out.drop2⟩
end Go.Proofs.YtcnkmhfcgkbhbaaGreat
