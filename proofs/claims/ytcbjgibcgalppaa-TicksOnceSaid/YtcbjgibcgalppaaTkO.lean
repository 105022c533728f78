/-
  TicksOnce, walked. No condition beside arguments that came in.
-/
import Derived.Test.YtcbjgibcgalppaaTkI
import Derived.Test.YtcbjgibcgalppaaTkP
import Derived.Test.YtcbjgibcgalppaaOpen
namespace Go.Proofs.Ytcbjgibcgalppaa
open Go.RowKit Go.Shelf
theorem u16_in {z : Int} (h : (Lit.int .u16 z).wf = true) : 0 ≤ z ∧ z ≤ 65535 := by
  simp [Lit.wf, IntKind.min, IntKind.max, IntKind.bits, IntKind.signed] at h
  omega
theorem u8_in {z : Int} (h : (Lit.int .u8 z).wf = true) : 0 ≤ z ∧ z ≤ 255 := by
  simp [Lit.wf, IntKind.min, IntKind.max, IntKind.bits, IntKind.signed] at h
  omega
def w64 (xs : List Int) : List Value := xs.map (Value.int .i64)
theorem w64_at (xs : List Int) (k : Nat) (h : k < xs.length) : (w64 xs)[k]? = some (.int .i64 (xs.getD k 0)) := by simp [w64, List.getD_eq_getElem?_getD, h]
theorem w64_app (xs : List Int) (t : Int) : w64 xs ++ [.int .i64 t] = w64 (xs ++ [t]) := by simp [w64]
theorem w64_set (xs : List Int) (k : Nat) (v : Int) : (w64 xs).set k (.int .i64 v) = w64 (xs.set k v) := by simp [w64, List.map_set]
abbrev wVec (v : Value) (n : Nat) (xs : List Int) : Res := vec 2 1 v n (w64 xs)
theorem info_i64 : (Try.prog.info? 2).map (fun i => (i.zero, i.size, i.bytes)) = some (some (.int .i64 0), 1, 8) := by kernel_rfl
theorem tv_some {w : World} {t : TypeId} {a : Option Addr} {n c : Nat} {xs : List Value} {rs : List Res} (h : Sep w (vec t 3 (.slice a n c) n xs :: rs)) (h0 : 0 < n) : ∃ g, a = some ⟨g, 0, none⟩ := by
  rcases h.gvec.2 with ⟨_, h1⟩ | ⟨g, cap, cur, hv, _⟩
  · omega
  · injection hv with e1 _ e3
    exact ⟨g, e1⟩
theorem vecI_some {w : World} {a : Option Addr} {n c : Nat} {xs : List Int} {rs : List Res} (h : Sep w (wVec (.slice a n c) n xs :: rs)) (h0 : 0 < n) : ∃ g, a = some ⟨g, 0, none⟩ := by
  rcases h.gvec.2 with ⟨_, h1⟩ | ⟨g, cap, cur, hv, _⟩
  · omega
  · injection hv with e1 _ e3
    exact ⟨g, e1⟩
theorem old_cell {w w1 wr : World} {rs : List Res} (b1 : Below w.heap.size w w1) (h : Sep wr (old w1 :: rs)) (b o : Nat) (hb : b < w.heap.size) : wr.cell? ⟨b, o, none⟩ = w.cell? ⟨b, o, none⟩ :=
  ((b1.trans (h.gold.mono b1.size)).cell (p := ⟨b, o, none⟩) hb)
set_option maxRecDepth 100000 in
set_option maxHeartbeats 4000000 in
theorem once_big (a0 a1 a2 : Option Addr) (n0 c0 n1 c1 n2 c2 : Nat) (w : World) (h : 40 < n0 ∨ 40 < n1 ∨ 100 < n2) :
    Calls Try.prog 3 #[.slice a0 n0 c0, .slice a1 n1 c1, .slice a2 n2 c2] w fun e w' => e = .returned (.bool true) ∧ Below w.heap.size w w' := by
  have HL := Lib.hid (lives_any w)
  by_cases h0 : 40 < n0
  · have i0 : (40 : Int) < (n0 : Int) := by omega
    go_enter Try.func3, Try.ntmps3
    go_wp2_with fail
    refine HL.out.mono ?_
    rintro e w1 ⟨rfl, b1⟩
    replace b1 := Lib.hid b1
    go_wp2_with fail
    go_ret
    exact ⟨rfl, b1.out⟩
  · have i0 : ¬ (40 : Int) < (n0 : Int) := by omega
    by_cases h1 : 40 < n1
    · have i1 : (40 : Int) < (n1 : Int) := by omega
      go_enter Try.func3, Try.ntmps3
      go_wp2_with fail
      refine HL.out.mono ?_
      rintro e w1 ⟨rfl, b1⟩
      replace b1 := Lib.hid b1
      go_wp2_with fail
      go_ret
      exact ⟨rfl, b1.out⟩
    · have i1 : ¬ (40 : Int) < (n1 : Int) := by omega
      have i2 : (100 : Int) < (n2 : Int) := by omega
      go_enter Try.func3, Try.ntmps3
      go_wp2_with fail
      refine HL.out.mono ?_
      rintro e w1 ⟨rfl, b1⟩
      replace b1 := Lib.hid b1
      go_wp2_with fail
      go_ret
      exact ⟨rfl, b1.out⟩
set_option maxRecDepth 100000 in
set_option maxHeartbeats 4000000 in
theorem once_walk (a0 : Option Addr) (n0 c0 : Nat) (z0 : List Int) (a1 : Option Addr) (n1 c1 : Nat) (z1 : Nat → Bool) (a2 : Option Addr) (n2 c2 : Nat) (z2 : List Int) (w : World) (h0 : IsInts .u16 w a0 n0 c0 z0) (h1 : IsBools w a1 n1 c1 z1) (h2 : IsInts .u8 w a2 n2 c2 z2) :
    Calls Try.prog 3 #[.slice a0 n0 c0, .slice a1 n1 c1, .slice a2 n2 c2] w fun e w' => e = .returned (.bool true) ∧ Below w.heap.size w w' := by
  by_cases hbig : 40 < n0 ∨ 40 < n1 ∨ 100 < n2
  · exact once_big a0 a1 a2 n0 c0 n1 c1 n2 c2 w hbig
  have q0 : n0 ≤ 40 := by omega
  have q1 : n1 ≤ 40 := by omega
  have q2 : n2 ≤ 100 := by omega
  have i0 : ¬ (40 : Int) < (n0 : Int) := by omega
  have i1 : ¬ (40 : Int) < (n1 : Int) := by omega
  have i2 : ¬ (100 : Int) < (n2 : Int) := by omega
  clear hbig
  obtain ⟨ii, hi, hz0, hz1, hz2⟩ := info_parts info_i64
  replace h0 := Lib.hid h0
  replace h1 := Lib.hid h1
  replace h2 := Lib.hid h2
  have HN := Lib.hid new_any
  go_enter Try.func3, Try.ntmps3
  go_wp2_with fail
  refine (lives_any w).mono ?_
  rintro e w1 ⟨rfl, b1⟩
  replace b1 := Lib.hid b1
  go_wp2_with fail
  refine (HN.out w1).mono ?_
  rintro e w2 ⟨p, rfl, hS⟩
  replace hS := Lib.hid (hS.vec_nil 2 1)
  clear HN
  go_wp2_with fail
  go_loopw [8, 9] (fun s8 s9 wr => ∃ (k : Nat) (wa : Option Addr) (wc : Nat) (want : List Int) (L : List Tm), k ≤ n0 ∧ s8 = .slice wa k wc ∧ s9 = .int .i64 k ∧ Hid (Mir want L) ∧ Hid (want.length = k) ∧ Hid (∀ j, j < k → 0 < want.getD j 0) ∧ Hid (L.length = k) ∧ Hid (Sep wr [wVec (.slice wa k wc) k want, clockR p 0 L, old w1]))
    (fun _ s9 _ => n0 - (intOf s9).toNat)
  case atStart => exact ⟨0, none, 0, [], [], Nat.zero_le _, rfl, rfl, mir_nil, rfl, Lib.hid (fun j hj => absurd hj (by omega)), rfl, hS⟩
  case round =>
    clear hS
    obtain ⟨k, wa, wc, want, L, hk, rfl, rfl, hM, hw, hP, hL, hS⟩ := hrel
    by_cases hlt : k < n0
    · obtain ⟨hz, _, _, hc⟩ := h0.out
      obtain ⟨b, off, rfl, hb, hc⟩ := hc (by omega)
      obtain ⟨z, hzf⟩ := hc k hlt
      rw [← old_cell b1.out (hS.out.bring 2 rfl) _ _ hb] at z
      obtain ⟨y0, y1⟩ := u16_in hzf
      clear hc hzf
      generalize z0.getD k 0 = y at *
      have cv : IntKind.i64.wrap y = y := IntWalk.i64_in _ (by omega)
      obtain ⟨t, ht⟩ : ∃ t, 1 + y % 1000 = t := ⟨_, rfl⟩
      have ht1 : 1 ≤ t ∧ t ≤ 1000 := by omega
      have j1 : (0 : Int) ≤ (k : Int) := by omega
      have j2 : (k : Int) < (n0 : Int) := by omega
      have HS := Lib.hid (set_new p 0 L t k 7 wr _ hS.out.to1 (by omega) (by have := mir_fresh hM.out; rw [hw.out] at this; exact this) (by rw [hL.out]; omega))
      have hM2 := Lib.hid (show Mir (want ++ [t]) (insT (t, (k : Int), 7) L) by have := mir_push (t := t) hM.out (by omega); rw [hw.out] at this; exact this)
      have hL2 := Lib.hid (show (insT (t, (k : Int), 7) L).length = k + 1 by rw [(insT_perm _ _).length_eq, List.length_cons, hL.out])
      have hw2 := Lib.hid (show (want ++ [t]).length = k + 1 by simp [hw.out])
      have hP2 := Lib.hid (show ∀ j, j < k + 1 → 0 < (want ++ [t]).getD j 0 by
        intro j hj
        rw [getD_app, hw.out]
        split
        · exact hP.out j (by omega)
        · rw [if_pos (by omega)]; omega)
      have hap := Lib.hid (w64_app want t)
      generalize insT (t, (k : Int), 7) L = L2 at *
      clear hM hL hP hS hz hb
      replace ht1 := Lib.hid ht1
      go_wp2_with fail
      refine HS.out.mono ?_
      rintro e w3 ⟨rfl, hS⟩
      replace hS := Lib.hid hS.to1
      clear HS
      go_wp2_with (at_builtin; refine wpList_append_sep (hS.out.allocG _) rfl _ _ 28 rfl ii (.int .i64 0) 8 Try.underlying28 hi hz0 hz1 hz2 rfl (by decide) rfl 1 [.int .i64 t] (SrcA.one _ _ _ _) ?c2 ?c3 ?c4 ?_)
      case c2 => simp [Value.oneCell']
      case c3 => simp only [maxLen]; omega
      case c4 => omega
      intro a' c' w5 hS5
      rw [hap.out] at hS5
      replace hS5 := Lib.hid hS5
      go_wp2_with fail
      go_roundw
      case rel => exact ⟨k + 1, a', c', want ++ [t], L2, by omega, rfl, by go_num, hM2, hw2, hP2, hL2, hS5⟩
      case measure => simp [intOf]; omega
    · obtain rfl : k = n0 := by omega
      clear hk
      go_wp2_with fail
      rename_i KT aKT
      have htail : Hid (∀ (x6 x11 x59 x60 x61 x62 x63 x64 x65 x66 x67 x68 x69 x70 x71 x72 x73 x74 x75 x76 x77 x78 x79 x80 x81 : Value) (want : List Int) (L : List Tm) (W : World), Hid (Mir want L) → Hid (want.length = k) → Hid (L.length ≤ 40) → Hid (∀ x ∈ L, 0 < x.1) → Hid (Sep W [wVec (.slice wa k wc) k want, clockR p 0 L, old w1]) → KT { tmps := #[Value.slice a0 k c0, Value.slice a1 n1 c1, Value.slice a2 n2 c2, undef, undef, undef, x6, Value.pointer (some ⟨p, 0, none⟩), Value.slice wa k wc, Value.int .i64 (k : Int), u10, x11, undef, undef, undef, undef, undef, undef, undef, undef, undef, Value.bool true, Value.bool false, Value.slice a0 k c0, Value.int .i64 (k : Int), Value.bool (decide ((40 : Int) < (k : Int))), Value.bool (decide ((40 : Int) < (k : Int))), Value.slice a1 n1 c1, Value.int .i64 (n1 : Int), Value.bool (decide ((40 : Int) < (n1 : Int))), Value.bool ((decide ((40 : Int) < (k : Int)) || decide ((40 : Int) < (n1 : Int)))), Value.bool ((decide ((40 : Int) < (k : Int)) || decide ((40 : Int) < (n1 : Int)))), Value.slice a2 n2 c2, Value.int .i64 (n2 : Int), Value.bool (decide ((100 : Int) < (n2 : Int))), Value.bool (((decide ((40 : Int) < (k : Int)) || decide ((40 : Int) < (n1 : Int))) || decide ((100 : Int) < (n2 : Int)))), Value.pointer (some ⟨p, 0, none⟩), Value.int .i64 (k : Int), Value.slice a0 k c0, Value.int .i64 (k : Int), Value.bool false, u41, u42, u43, u44, u45, u46, u47, u48, u49, u50, u51, u52, u53, u54, u55, u56, u57, u58, x59, x60, x61, x62, x63, x64, x65, x66, x67, x68, x69, x70, x71, x72, x73, x74, x75, x76, x77, x78, x79, x80, x81, undef, undef, undef, undef, undef, undef, undef, undef, undef, undef, undef, undef, undef, undef, undef, undef, undef, undef, undef, undef, undef, undef, undef, undef, undef, undef, undef, undef, undef, undef, undef, undef, undef, undef, undef, undef, undef, undef, undef, undef, undef, undef, undef, undef, undef, undef, undef, undef, undef, undef, undef, undef, undef, undef, undef, undef, undef, undef, undef, undef, undef, undef, undef, undef, undef, undef, undef, undef, undef, undef, undef, undef, undef, undef, undef, undef, undef, undef, undef, undef, undef, undef, undef, undef, undef, undef, undef, undef, undef, undef, undef, undef, undef, undef, undef, undef, undef, undef, undef, undef, undef, undef, undef, undef, undef, undef, undef, undef, undef, undef, undef, undef, undef, undef, undef, undef, undef, undef, undef, undef, undef, undef, undef, undef, undef, undef, undef, undef, undef, undef, undef], defers := [] } W) := by
        refine Lib.hid ?_
        intro x6 x11 x59 x60 x61 x62 x63 x64 x65 x66 x67 x68 x69 x70 x71 x72 x73 x74 x75 x76 x77 x78 x79 x80 x81 want L W hM hw hL hpos hS
        refine aKT _ _ ?_
        clear aKT
        go_wp2_with fail
        have hS3 := Lib.hid (show Sep _ [blk W.heap.size 34 #[.int .i64 0, .int .i64 0, .int .i64 0], wVec (.slice wa k wc) k want, clockR p 0 L, old w1] from hS.out.alloc #[.int .i64 0, .int .i64 0, .int .i64 0] 34)
        clear hS
        generalize W.heap.size = lb at hS3 ⊢
        go_loopw [13] (fun s wr => ∃ (i : Nat) (now : Int) (want : List Int) (L : List Tm) (last : Tm), i ≤ n2 ∧ s = .int .i64 i ∧ Hid (0 ≤ now ∧ now ≤ 255 * i) ∧ Hid (Mir want L) ∧ Hid (want.length = k) ∧ Hid (L.length ≤ 40) ∧ Hid (∀ x ∈ L, now < x.1) ∧ Hid (∀ x ∈ L, After last x) ∧ Hid (Sep wr [blk lb 34 #[.int .i64 last.1, .int .i64 last.2.1, .int .i64 last.2.2], wVec (.slice wa k wc) k want, clockR p now L, old w1])) (fun s _ => n2 - (intOf s).toNat)
        case atStart => exact ⟨0, 0, want, L, (0, 0, 0), Nat.zero_le _, rfl, Lib.hid ⟨by omega, by omega⟩, hM, hw, hL, hpos, Lib.hid (fun x hx => .inl (hpos.out x hx)), hS3⟩
        case round =>
          clear hM hw hL hpos hS3
          obtain ⟨i, now, want, L, last, hi2, rfl, hnow, hM, hw, hL, hpos, hAf, hS⟩ := hrel
          by_cases hlt : i < n2
          · obtain ⟨_, _, _, hc⟩ := h2.out
            obtain ⟨bz, oz, rfl, hbz, hc⟩ := hc (by omega)
            obtain ⟨z, hzf⟩ := hc i hlt
            have zr := (old_cell b1.out (hS.out.bring 3 rfl) bz (oz + i) hbz).trans z
            obtain ⟨y0, y1⟩ := u8_in hzf
            clear hc hzf
            generalize z2.getD i 0 = y at *
            obtain ⟨n0_, n1_⟩ := hnow.out
            have cy : IntKind.i64.wrap y = y := IntWalk.i64_in _ (by omega)
            have cny : IntKind.i64.wrap (now + y) = now + y := IntWalk.i64_in _ (by omega)
            have lat : later now y = now + y := by unfold later; omega
            have l0_ : (0 : Int) ≤ (i : Int) := by omega
            have l1_ : (i : Int) < (n2 : Int) := by omega
            have HNow := Lib.hid (now_any p now L wr _ (hS.out.bring 2 rfl))
            have HPass := Lib.hid (pass_ok p now y L wr _ (hS.out.bring 2 rfl) (by have := hL.out; omega) y0 (by omega) n0_ (by omega))
            rw [lat] at HPass
            have hsrt := Lib.hid (clock_srt (hS.out.bring 2 rfl)).1
            have hm1 := Lib.hid (dueN_le (now + y) L)
            have hm2 := Lib.hid (show ∀ q x, q < dueN (now + y) L → L[q]? = some x → x.1 ≤ now + y from dueN_spec (now + y) L)
            have hm3 := Lib.hid (show ∀ x ∈ L.drop (dueN (now + y) L), now + y < x.1 from rest_spec (now + y) L hsrt.out)
            generalize dueN (now + y) L = m at *
            clear lat hnow
            replace n0_ := Lib.hid n0_
            replace n1_ := Lib.hid n1_
            go_wp2_with fail
            refine HNow.out.mono ?_
            rintro e w3 ⟨rfl, rfl⟩
            go_wp2_with fail
            refine HPass.out.mono ?_
            rintro e w4 ⟨la, lc, rfl, hS4⟩
            replace hS4 := Lib.hid (show Sep w4 [vec 34 3 (.slice la m lc) m ((L.take m).flatMap tC), clockR p (now + y) (L.drop m), blk lb 34 #[.int .i64 last.1, .int .i64 last.2.1, .int .i64 last.2.2], wVec (.slice wa k wc) k want, old w1] from hS4)
            clear HNow HPass hS zr
            go_wp2_with fail
            have hS := Lib.hid (show (fun V : World => Sep V [vec 34 3 (.slice la m lc) m ((L.take m).flatMap tC), clockR p (now + y) (L.drop m), blk lb 34 #[.int .i64 last.1, .int .i64 last.2.1, .int .i64 last.2.2], wVec (.slice wa k wc) k want, old w1]) _ from hS4.out.drew)
            refine hl_begin (fun V : World => Sep V [vec 34 3 (.slice la m lc) m ((L.take m).flatMap tC), clockR p (now + y) (L.drop m), blk lb 34 #[.int .i64 last.1, .int .i64 last.2.1, .int .i64 last.2.2], wVec (.slice wa k wc) k want, old w1]) [(0, true), (1, true), (2, true), (3, true), (5, true), (6, true), (7, true), (8, true), (9, true), (10, true), (11, true), (4, false), (12, true), (13, true)] (by kernel_rfl) (by kernel_rfl) (by kernel_rfl) rfl (fun _ _ _ _ _ h => h) hS.out ?_
            change HL _ _ _ _ _ _ (World.drew _)
            generalize World.drew _ = wd at *
            refine hl_take ?v1 rfl (by kernel_rfl) ?y1 ?z1
            case y1 => intro W hW; have := cy; have := cny; replace hW := Lib.hid hW; go_simp; try rfl
            case z1 =>
            simp only [Act.put, List.setIfInBounds_toArray, List.set_cons_succ, List.set_cons_zero, List.getElem_toArray, List.getElem_cons_zero, List.getElem_cons_succ]
            refine hl_take ?v2 rfl (by kernel_rfl) ?y2 ?z2
            case y2 => intro W hW; have := cy; have := cny; replace hW := Lib.hid hW; go_simp; try rfl
            case z2 =>
            simp only [Act.put, List.setIfInBounds_toArray, List.set_cons_succ, List.set_cons_zero, List.getElem_toArray, List.getElem_cons_zero, List.getElem_cons_succ]
            refine hl_take ?v3 rfl (by kernel_rfl) ?y3 ?z3
            case y3 => intro W hW; have := cy; have := cny; replace hW := Lib.hid hW; go_simp; try rfl
            case z3 =>
            simp only [Act.put, List.setIfInBounds_toArray, List.set_cons_succ, List.set_cons_zero, List.getElem_toArray, List.getElem_cons_zero, List.getElem_cons_succ]
            refine hl_take ?v4 rfl (by kernel_rfl) ?y4 ?z4
            case y4 => intro W hW; have := cy; have := cny; replace hW := Lib.hid hW; go_simp; try rfl
            case z4 =>
            simp only [Act.put, List.setIfInBounds_toArray, List.set_cons_succ, List.set_cons_zero, List.getElem_toArray, List.getElem_cons_zero, List.getElem_cons_succ]
            refine hl_take ?v5 rfl (by kernel_rfl) ?y5 ?z5
            case y5 => intro W hW; have := cy; have := cny; replace hW := Lib.hid hW; go_simp; try rfl
            case z5 =>
            simp only [Act.put, List.setIfInBounds_toArray, List.set_cons_succ, List.set_cons_zero, List.getElem_toArray, List.getElem_cons_zero, List.getElem_cons_succ]
            refine hl_take ?v6 rfl (by kernel_rfl) ?y6 ?z6
            case y6 => intro W hW; have := cy; have := cny; replace hW := Lib.hid hW; go_simp; try rfl
            case z6 =>
            simp only [Act.put, List.setIfInBounds_toArray, List.set_cons_succ, List.set_cons_zero, List.getElem_toArray, List.getElem_cons_zero, List.getElem_cons_succ]
            refine hl_take ?v7 rfl (by kernel_rfl) ?y7 ?z7
            case y7 => intro W hW; have := cy; have := cny; replace hW := Lib.hid hW; go_simp; try rfl
            case z7 =>
            simp only [Act.put, List.setIfInBounds_toArray, List.set_cons_succ, List.set_cons_zero, List.getElem_toArray, List.getElem_cons_zero, List.getElem_cons_succ]
            refine hl_take ?v8 rfl (by kernel_rfl) ?y8 ?z8
            case y8 => intro W hW; have := cy; have := cny; replace hW := Lib.hid hW; go_simp; try rfl
            case z8 =>
            simp only [Act.put, List.setIfInBounds_toArray, List.set_cons_succ, List.set_cons_zero, List.getElem_toArray, List.getElem_cons_zero, List.getElem_cons_succ]
            refine hl_take ?v9 rfl (by kernel_rfl) ?y9 ?z9
            case y9 => intro W hW; have zz := (old_cell b1.out ((show Sep _ _ from hW).bring 4 rfl) bz (oz + i) hbz).trans z; replace hW := Lib.hid hW; go_simp; try rfl
            case z9 =>
            simp only [Act.put, List.setIfInBounds_toArray, List.set_cons_succ, List.set_cons_zero, List.getElem_toArray, List.getElem_cons_zero, List.getElem_cons_succ]
            refine hl_take ?v10 rfl (by kernel_rfl) ?y10 ?z10
            case y10 => intro W hW; have := cy; have := cny; replace hW := Lib.hid hW; go_simp; try rfl
            case z10 =>
            simp only [Act.put, List.setIfInBounds_toArray, List.set_cons_succ, List.set_cons_zero, List.getElem_toArray, List.getElem_cons_zero, List.getElem_cons_succ]
            refine hl_take ?v11 rfl (by kernel_rfl) ?y11 ?z11
            case y11 => intro W hW; have := cy; have := cny; replace hW := Lib.hid hW; go_simp; try rfl
            case z11 =>
            simp only [Act.put, List.setIfInBounds_toArray, List.set_cons_succ, List.set_cons_zero, List.getElem_toArray, List.getElem_cons_zero, List.getElem_cons_succ]
            refine hl_one rfl (by kernel_rfl) (fun K hK => ?_)
            go_simp
            refine (now_any p (now + y) _ _ _ (show Sep _ _ from hS.out.to1)).mono ?_
            rintro e w5 ⟨rfl, hw5⟩
            subst hw5
            refine hK.out _ _ hS.out ?_
            clear hK K
            try simp only [Act.put, List.setIfInBounds_toArray, List.set_cons_succ, List.set_cons_zero, List.getElem_toArray, List.getElem_cons_zero, List.getElem_cons_succ]
            refine hl_take ?v12 rfl (by kernel_rfl) ?y12 ?z12
            case y12 => intro W hW; have := cy; have := cny; replace hW := Lib.hid hW; go_simp; try rfl
            case z12 =>
            simp only [Act.put, List.setIfInBounds_toArray, List.set_cons_succ, List.set_cons_zero, List.getElem_toArray, List.getElem_cons_zero, List.getElem_cons_succ]
            refine hl_take ?v13 rfl (by kernel_rfl) ?y13 ?z13
            case y13 => intro W hW; have := cy; have := cny; replace hW := Lib.hid hW; go_simp; try rfl
            case z13 =>
            simp only [Act.put, List.setIfInBounds_toArray, List.set_cons_succ, List.set_cons_zero, List.getElem_toArray, List.getElem_cons_zero, List.getElem_cons_succ]
            refine hl_done ?_
            go_wp2_with fail
            go_loopw [17] (fun s wr => ∃ (q : Nat) (want2 : List Int) (last2 : Tm), q ≤ m ∧ s = .int .i64 q ∧ Hid (Mir want2 (L.drop q)) ∧ Hid (want2.length = k) ∧ Hid (∀ x ∈ L.drop q, After last2 x) ∧ Hid (Sep wr [vec 34 3 (.slice la m lc) m ((L.take m).flatMap tC), clockR p (now + y) (L.drop m), blk lb 34 #[.int .i64 last2.1, .int .i64 last2.2.1, .int .i64 last2.2.2], wVec (.slice wa k wc) k want2, old w1])) (fun s _ => m - (intOf s).toNat)
            case atStart => exact ⟨0, want, last, Nat.zero_le _, rfl, hM, hw, hAf, hS⟩
            case round =>
              clear hS hS4 hM hw hAf z
              obtain ⟨q, want2, ⟨l0, l1, l2⟩, hq, rfl, hM, hw, hAf, hS⟩ := hrel
              by_cases hlq : q < m
              · have hqL : q < L.length := Nat.lt_of_lt_of_le hlq hm1.out
                have hm40 : m ≤ 40 := Nat.le_trans hm1.out hL.out
                obtain ⟨x, hx⟩ : ∃ x, L[q]? = some x := ⟨_, List.getElem?_eq_getElem hqL⟩
                have hdr : L.drop q = x :: L.drop (q + 1) := by
                  rw [List.drop_eq_getElem_cons hqL]
                  rw [List.getElem?_eq_getElem hqL] at hx
                  rw [Option.some.inj hx]
                have hxL : x ∈ L := List.mem_of_getElem? hx
                have hsd : (x :: L.drop (q + 1)).Pairwise ltP := by rw [← hdr]; exact hsrt.out.drop
                have t1 := hpos.out x hxL
                have t2 := hm2.out q x hlq hx
                have hMx := hM.out
                rw [hdr] at hMx
                have t3 := hAf.out x (by rw [hdr]; exact List.mem_cons_self)
                obtain ⟨t4, t5, t6, t7, t8⟩ := (hMx x).1 List.mem_cons_self
                have hM2 := mir_tail hMx hsd
                have hAf2 : ∀ y ∈ L.drop (q + 1), After x y := fun y hy => after_lt ((List.pairwise_cons.1 hsd).1 y hy) (by rw [t4, ((hMx y).1 (List.mem_cons_of_mem _ hy)).1])
                have hxm : (L.take m)[q]? = some x := by rw [List.getElem?_take, if_pos hlq]; exact hx
                obtain ⟨g, rfl⟩ := tv_some hS.out (by omega)
                have v0 : wr.cell? ⟨g, q * 3, none⟩ = some (.int .i64 x.1) := (hS.out.vec_cell (flat_at tC 3 tC_len (L.take m) q 0 x hxm (by omega))).1
                have v1 : wr.cell? ⟨g, q * 3 + 1, none⟩ = some (.int .i64 x.2.1) := (hS.out.vec_cell (flat_at tC 3 tC_len (L.take m) q 1 x hxm (by omega))).1
                have v2 : wr.cell? ⟨g, q * 3 + 2, none⟩ = some (.int .i64 x.2.2) := (hS.out.vec_cell (flat_at tC 3 tC_len (L.take m) q 2 x hxm (by omega))).1
                obtain ⟨gw, rfl⟩ := vecI_some (hS.out.bring 3 rfl) (by have := hw.out; omega)
                obtain ⟨x0, x1, x2⟩ := x
                simp only at t1 t2 t4 t5 t6 t7 t8 hM2 v0 v1 v2
                subst t4
                obtain ⟨j, rfl⟩ := Int.eq_ofNat_of_zero_le t5
                rw [Int.toNat_natCast] at t7 hM2
                have hwx := Lib.hid t7
                have hjw := Lib.hid (show j < want2.length by omega)
                have hjl := Lib.hid (show j < (w64 want2).length by simp [w64]; omega)
                have hws := Lib.hid (w64_set want2 j 0)
                have hw2 := Lib.hid (show (want2.set j 0).length = k by rw [List.length_set]; exact hw.out)
                replace hM2 := Lib.hid hM2
                replace hAf2 := Lib.hid hAf2
                have s1 : ¬ (j : Int) < 0 := by omega
                have s2 : ¬ (k : Int) ≤ (j : Int) := by have := hw.out; have := hjw.out; omega
                have s3 : ¬ x0 ≤ now := by omega
                have s4 : ¬ now + y < x0 := by omega
                have s5 : ¬ x0 < l0 := by unfold After at t3; simp only at t3; omega
                have s6 : (0 : Int) ≤ (j : Int) := by omega
                have s7 : (j : Int) < (k : Int) := by have := hw.out; have := hjw.out; omega
                have v1_ : decide ((j : Int) < 0) = false := decide_eq_false s1
                have v2_ : decide ((k : Int) ≤ (j : Int)) = false := decide_eq_false s2
                have v2n : decide (k ≤ j) = false := decide_eq_false (by omega)
                have v3_ : decide (x0 ≤ now) = false := decide_eq_false s3
                have v4_ : decide (now + y < x0) = false := decide_eq_false s4
                have v5_ : decide (x0 < l0) = false := decide_eq_false s5
                have s8 : (0 : Int) ≤ (q : Int) := by omega
                have s9 : (q : Int) < (m : Int) := by omega
                have hS6 := Lib.hid (show Sep _ [blk _ 34 #[.int .i64 x0, .int .i64 (j : Int), .int .i64 7], vec 34 3 (.slice (some ⟨g, 0, none⟩) m lc) m ((L.take m).flatMap tC), clockR p (now + y) (L.drop m), blk lb 34 #[.int .i64 l0, .int .i64 l1, .int .i64 l2], wVec (.slice (some ⟨gw, 0, none⟩) k wc) k want2, old w1] from hS.out.alloc #[.int .i64 x0, .int .i64 (j : Int), .int .i64 7] 34)
                clear hS hM hAf hMx hsd hdr hx hxm hxL t1 t2 t5 t6 t7 t8
                replace t3 := Lib.hid t3
                go_wp2_with fail
                clear v0 v1 v2 s1 s2 s3 s4 s5
                generalize wr.heap.size = X at hS6 ⊢
                have hS := Lib.hid (show (fun V : World => Sep V [blk X 34 #[.int .i64 x0, .int .i64 (j : Int), .int .i64 7], vec 34 3 (.slice (some ⟨g, 0, none⟩) m lc) m ((L.take m).flatMap tC), clockR p (now + y) (L.drop m), blk lb 34 #[.int .i64 l0, .int .i64 l1, .int .i64 l2], wVec (.slice (some ⟨gw, 0, none⟩) k wc) k want2, old w1]) _ from hS6.out.drew)
                refine hl_begin (fun V : World => Sep V [blk X 34 #[.int .i64 x0, .int .i64 (j : Int), .int .i64 7], vec 34 3 (.slice (some ⟨g, 0, none⟩) m lc) m ((L.take m).flatMap tC), clockR p (now + y) (L.drop m), blk lb 34 #[.int .i64 l0, .int .i64 l1, .int .i64 l2], wVec (.slice (some ⟨gw, 0, none⟩) k wc) k want2, old w1]) [(0, true), (1, true), (2, true), (3, true), (4, true), (5, true), (6, true), (7, true), (8, true), (9, true), (10, true), (11, true), (12, true), (13, true), (14, true), (15, true), (16, true), (17, true), (18, true), (19, true), (20, true), (21, true), (22, true), (23, true), (24, true), (25, true), (26, true), (27, true), (28, true), (29, true), (30, true), (31, true), (32, true), (33, true), (34, true), (35, false), (36, true), (37, true), (38, true), (39, true), (40, true), (41, true), (42, true), (43, true), (44, true), (45, true), (46, true), (47, true), (48, true), (49, true), (50, true), (51, true), (52, true), (53, true), (54, true), (55, true), (56, true), (57, true), (58, true)] (by kernel_rfl) (by kernel_rfl) (by kernel_rfl) rfl (fun _ _ _ _ _ h => h) hS.out ?_
                change HL _ _ _ _ _ _ (World.drew _)
                generalize World.drew _ = wd at *
                refine hl_take ?v20 rfl (by kernel_rfl) ?y20 ?z20
                case y20 => intro W hW; have := v1_; have := v2_; have := v2n; have := v3_; have := v4_; have := v5_; (try have := s10); replace hW := Lib.hid hW; go_simp; try rfl
                case z20 =>
                simp only [Act.put, List.setIfInBounds_toArray, List.set_cons_succ, List.set_cons_zero, List.getElem_toArray, List.getElem_cons_zero, List.getElem_cons_succ]
                refine hl_take ?v21 rfl (by kernel_rfl) ?y21 ?z21
                case y21 => intro W hW; obtain ⟨_, e0, e1, e2, _⟩ := (show Sep _ _ from hW).b3; obtain ⟨_, f0, f1, f2, _⟩ := ((show Sep _ _ from hW).bring 3 rfl).b3; obtain ⟨g0, _, _⟩ := ((show Sep _ _ from hW).bring 4 rfl).vec_cell (w64_at want2 j hjw.out); rw [hwx.out] at g0; replace hW := Lib.hid hW; go_simp; try rfl
                case z21 =>
                simp only [Act.put, List.setIfInBounds_toArray, List.set_cons_succ, List.set_cons_zero, List.getElem_toArray, List.getElem_cons_zero, List.getElem_cons_succ]
                refine hl_take ?v22 rfl (by kernel_rfl) ?y22 ?z22
                case y22 => intro W hW; have := v1_; have := v2_; have := v2n; have := v3_; have := v4_; have := v5_; (try have := s10); replace hW := Lib.hid hW; go_simp; try rfl
                case z22 =>
                simp only [Act.put, List.setIfInBounds_toArray, List.set_cons_succ, List.set_cons_zero, List.getElem_toArray, List.getElem_cons_zero, List.getElem_cons_succ]
                refine hl_take ?v23 rfl (by kernel_rfl) ?y23 ?z23
                case y23 => intro W hW; have := v1_; have := v2_; have := v2n; have := v3_; have := v4_; have := v5_; (try have := s10); replace hW := Lib.hid hW; go_simp; try rfl
                case z23 =>
                simp only [Act.put, List.setIfInBounds_toArray, List.set_cons_succ, List.set_cons_zero, List.getElem_toArray, List.getElem_cons_zero, List.getElem_cons_succ]
                refine hl_take ?v24 rfl (by kernel_rfl) ?y24 ?z24
                case y24 => intro W hW; have := v1_; have := v2_; have := v2n; have := v3_; have := v4_; have := v5_; (try have := s10); replace hW := Lib.hid hW; go_simp; try rfl
                case z24 =>
                simp only [Act.put, List.setIfInBounds_toArray, List.set_cons_succ, List.set_cons_zero, List.getElem_toArray, List.getElem_cons_zero, List.getElem_cons_succ]
                refine hl_take ?v25 rfl (by kernel_rfl) ?y25 ?z25
                case y25 => intro W hW; obtain ⟨_, e0, e1, e2, _⟩ := (show Sep _ _ from hW).b3; obtain ⟨_, f0, f1, f2, _⟩ := ((show Sep _ _ from hW).bring 3 rfl).b3; obtain ⟨g0, _, _⟩ := ((show Sep _ _ from hW).bring 4 rfl).vec_cell (w64_at want2 j hjw.out); rw [hwx.out] at g0; replace hW := Lib.hid hW; go_simp; try rfl
                case z25 =>
                simp only [Act.put, List.setIfInBounds_toArray, List.set_cons_succ, List.set_cons_zero, List.getElem_toArray, List.getElem_cons_zero, List.getElem_cons_succ]
                refine hl_take ?v26 rfl (by kernel_rfl) ?y26 ?z26
                case y26 => intro W hW; have := v1_; have := v2_; have := v2n; have := v3_; have := v4_; have := v5_; (try have := s10); replace hW := Lib.hid hW; go_simp; try rfl
                case z26 =>
                simp only [Act.put, List.setIfInBounds_toArray, List.set_cons_succ, List.set_cons_zero, List.getElem_toArray, List.getElem_cons_zero, List.getElem_cons_succ]
                refine hl_take ?v27 rfl (by kernel_rfl) ?y27 ?z27
                case y27 => intro W hW; have := v1_; have := v2_; have := v2n; have := v3_; have := v4_; have := v5_; (try have := s10); replace hW := Lib.hid hW; go_simp; try rfl
                case z27 =>
                simp only [Act.put, List.setIfInBounds_toArray, List.set_cons_succ, List.set_cons_zero, List.getElem_toArray, List.getElem_cons_zero, List.getElem_cons_succ]
                refine hl_take ?v28 rfl (by kernel_rfl) ?y28 ?z28
                case y28 => intro W hW; have := v1_; have := v2_; have := v2n; have := v3_; have := v4_; have := v5_; (try have := s10); replace hW := Lib.hid hW; go_simp; try rfl
                case z28 =>
                simp only [Act.put, List.setIfInBounds_toArray, List.set_cons_succ, List.set_cons_zero, List.getElem_toArray, List.getElem_cons_zero, List.getElem_cons_succ]
                refine hl_take ?v29 rfl (by kernel_rfl) ?y29 ?z29
                case y29 => intro W hW; have := v1_; have := v2_; have := v2n; have := v3_; have := v4_; have := v5_; (try have := s10); replace hW := Lib.hid hW; go_simp; try rfl
                case z29 =>
                simp only [Act.put, List.setIfInBounds_toArray, List.set_cons_succ, List.set_cons_zero, List.getElem_toArray, List.getElem_cons_zero, List.getElem_cons_succ]
                refine hl_take ?v30 rfl (by kernel_rfl) ?y30 ?z30
                case y30 => intro W hW; have := v1_; have := v2_; have := v2n; have := v3_; have := v4_; have := v5_; (try have := s10); replace hW := Lib.hid hW; go_simp; try rfl
                case z30 =>
                simp only [Act.put, List.setIfInBounds_toArray, List.set_cons_succ, List.set_cons_zero, List.getElem_toArray, List.getElem_cons_zero, List.getElem_cons_succ]
                refine hl_take ?v31 rfl (by kernel_rfl) ?y31 ?z31
                case y31 => intro W hW; have := v1_; have := v2_; have := v2n; have := v3_; have := v4_; have := v5_; (try have := s10); replace hW := Lib.hid hW; go_simp; try rfl
                case z31 =>
                simp only [Act.put, List.setIfInBounds_toArray, List.set_cons_succ, List.set_cons_zero, List.getElem_toArray, List.getElem_cons_zero, List.getElem_cons_succ]
                refine hl_take ?v32 rfl (by kernel_rfl) ?y32 ?z32
                case y32 => intro W hW; have := v1_; have := v2_; have := v2n; have := v3_; have := v4_; have := v5_; (try have := s10); replace hW := Lib.hid hW; go_simp; try rfl
                case z32 =>
                simp only [Act.put, List.setIfInBounds_toArray, List.set_cons_succ, List.set_cons_zero, List.getElem_toArray, List.getElem_cons_zero, List.getElem_cons_succ]
                refine hl_take ?v33 rfl (by kernel_rfl) ?y33 ?z33
                case y33 => intro W hW; obtain ⟨_, e0, e1, e2, _⟩ := (show Sep _ _ from hW).b3; obtain ⟨_, f0, f1, f2, _⟩ := ((show Sep _ _ from hW).bring 3 rfl).b3; obtain ⟨g0, _, _⟩ := ((show Sep _ _ from hW).bring 4 rfl).vec_cell (w64_at want2 j hjw.out); rw [hwx.out] at g0; replace hW := Lib.hid hW; go_simp; try rfl
                case z33 =>
                simp only [Act.put, List.setIfInBounds_toArray, List.set_cons_succ, List.set_cons_zero, List.getElem_toArray, List.getElem_cons_zero, List.getElem_cons_succ]
                refine hl_take ?v34 rfl (by kernel_rfl) ?y34 ?z34
                case y34 => intro W hW; have := v1_; have := v2_; have := v2n; have := v3_; have := v4_; have := v5_; (try have := s10); replace hW := Lib.hid hW; go_simp; try rfl
                case z34 =>
                simp only [Act.put, List.setIfInBounds_toArray, List.set_cons_succ, List.set_cons_zero, List.getElem_toArray, List.getElem_cons_zero, List.getElem_cons_succ]
                refine hl_take ?v35 rfl (by kernel_rfl) ?y35 ?z35
                case y35 => intro W hW; obtain ⟨_, e0, e1, e2, _⟩ := (show Sep _ _ from hW).b3; obtain ⟨_, f0, f1, f2, _⟩ := ((show Sep _ _ from hW).bring 3 rfl).b3; obtain ⟨g0, _, _⟩ := ((show Sep _ _ from hW).bring 4 rfl).vec_cell (w64_at want2 j hjw.out); rw [hwx.out] at g0; replace hW := Lib.hid hW; go_simp; try rfl
                case z35 =>
                simp only [Act.put, List.setIfInBounds_toArray, List.set_cons_succ, List.set_cons_zero, List.getElem_toArray, List.getElem_cons_zero, List.getElem_cons_succ]
                refine hl_take ?v36 rfl (by kernel_rfl) ?y36 ?z36
                case y36 => intro W hW; have := v1_; have := v2_; have := v2n; have := v3_; have := v4_; have := v5_; (try have := s10); replace hW := Lib.hid hW; go_simp; try rfl
                case z36 =>
                simp only [Act.put, List.setIfInBounds_toArray, List.set_cons_succ, List.set_cons_zero, List.getElem_toArray, List.getElem_cons_zero, List.getElem_cons_succ]
                refine hl_take ?v37 rfl (by kernel_rfl) ?y37 ?z37
                case y37 => intro W hW; obtain ⟨_, e0, e1, e2, _⟩ := (show Sep _ _ from hW).b3; obtain ⟨_, f0, f1, f2, _⟩ := ((show Sep _ _ from hW).bring 3 rfl).b3; obtain ⟨g0, _, _⟩ := ((show Sep _ _ from hW).bring 4 rfl).vec_cell (w64_at want2 j hjw.out); rw [hwx.out] at g0; replace hW := Lib.hid hW; go_simp; try rfl
                case z37 =>
                simp only [Act.put, List.setIfInBounds_toArray, List.set_cons_succ, List.set_cons_zero, List.getElem_toArray, List.getElem_cons_zero, List.getElem_cons_succ]
                refine hl_take ?v38 rfl (by kernel_rfl) ?y38 ?z38
                case y38 => intro W hW; have := v1_; have := v2_; have := v2n; have := v3_; have := v4_; have := v5_; (try have := s10); replace hW := Lib.hid hW; go_simp; try rfl
                case z38 =>
                simp only [Act.put, List.setIfInBounds_toArray, List.set_cons_succ, List.set_cons_zero, List.getElem_toArray, List.getElem_cons_zero, List.getElem_cons_succ]
                refine hl_take ?v39 rfl (by kernel_rfl) ?y39 ?z39
                case y39 => intro W hW; have := v1_; have := v2_; have := v2n; have := v3_; have := v4_; have := v5_; (try have := s10); replace hW := Lib.hid hW; go_simp; try rfl
                case z39 =>
                simp only [Act.put, List.setIfInBounds_toArray, List.set_cons_succ, List.set_cons_zero, List.getElem_toArray, List.getElem_cons_zero, List.getElem_cons_succ]
                refine hl_take ?v40 rfl (by kernel_rfl) ?y40 ?z40
                case y40 => intro W hW; have := v1_; have := v2_; have := v2n; have := v3_; have := v4_; have := v5_; (try have := s10); replace hW := Lib.hid hW; go_simp; try rfl
                case z40 =>
                simp only [Act.put, List.setIfInBounds_toArray, List.set_cons_succ, List.set_cons_zero, List.getElem_toArray, List.getElem_cons_zero, List.getElem_cons_succ]
                refine hl_take ?v41 rfl (by kernel_rfl) ?y41 ?z41
                case y41 => intro W hW; have := v1_; have := v2_; have := v2n; have := v3_; have := v4_; have := v5_; (try have := s10); replace hW := Lib.hid hW; go_simp; try rfl
                case z41 =>
                simp only [Act.put, List.setIfInBounds_toArray, List.set_cons_succ, List.set_cons_zero, List.getElem_toArray, List.getElem_cons_zero, List.getElem_cons_succ]
                refine hl_take ?v42 rfl (by kernel_rfl) ?y42 ?z42
                case y42 => intro W hW; obtain ⟨_, e0, e1, e2, _⟩ := (show Sep _ _ from hW).b3; obtain ⟨_, f0, f1, f2, _⟩ := ((show Sep _ _ from hW).bring 3 rfl).b3; obtain ⟨g0, _, _⟩ := ((show Sep _ _ from hW).bring 4 rfl).vec_cell (w64_at want2 j hjw.out); rw [hwx.out] at g0; replace hW := Lib.hid hW; go_simp; try rfl
                case z42 =>
                simp only [Act.put, List.setIfInBounds_toArray, List.set_cons_succ, List.set_cons_zero, List.getElem_toArray, List.getElem_cons_zero, List.getElem_cons_succ]
                refine hl_take ?v43 rfl (by kernel_rfl) ?y43 ?z43
                case y43 => intro W hW; have := v1_; have := v2_; have := v2n; have := v3_; have := v4_; have := v5_; (try have := s10); replace hW := Lib.hid hW; go_simp; try rfl
                case z43 =>
                simp only [Act.put, List.setIfInBounds_toArray, List.set_cons_succ, List.set_cons_zero, List.getElem_toArray, List.getElem_cons_zero, List.getElem_cons_succ]
                refine hl_take ?v44 rfl (by kernel_rfl) ?y44 ?z44
                case y44 => intro W hW; have := v1_; have := v2_; have := v2n; have := v3_; have := v4_; have := v5_; (try have := s10); replace hW := Lib.hid hW; go_simp; try rfl
                case z44 =>
                simp only [Act.put, List.setIfInBounds_toArray, List.set_cons_succ, List.set_cons_zero, List.getElem_toArray, List.getElem_cons_zero, List.getElem_cons_succ]
                refine hl_take ?v45 rfl (by kernel_rfl) ?y45 ?z45
                case y45 => intro W hW; have := v1_; have := v2_; have := v2n; have := v3_; have := v4_; have := v5_; (try have := s10); replace hW := Lib.hid hW; go_simp; try rfl
                case z45 =>
                simp only [Act.put, List.setIfInBounds_toArray, List.set_cons_succ, List.set_cons_zero, List.getElem_toArray, List.getElem_cons_zero, List.getElem_cons_succ]
                refine hl_take ?v46 rfl (by kernel_rfl) ?y46 ?z46
                case y46 => intro W hW; have := v1_; have := v2_; have := v2n; have := v3_; have := v4_; have := v5_; (try have := s10); replace hW := Lib.hid hW; go_simp; try rfl
                case z46 =>
                simp only [Act.put, List.setIfInBounds_toArray, List.set_cons_succ, List.set_cons_zero, List.getElem_toArray, List.getElem_cons_zero, List.getElem_cons_succ]
                refine hl_take ?v47 rfl (by kernel_rfl) ?y47 ?z47
                case y47 => intro W hW; obtain ⟨_, e0, e1, e2, _⟩ := (show Sep _ _ from hW).b3; obtain ⟨_, f0, f1, f2, _⟩ := ((show Sep _ _ from hW).bring 3 rfl).b3; obtain ⟨g0, _, _⟩ := ((show Sep _ _ from hW).bring 4 rfl).vec_cell (w64_at want2 j hjw.out); rw [hwx.out] at g0; replace hW := Lib.hid hW; go_simp; try rfl
                case z47 =>
                simp only [Act.put, List.setIfInBounds_toArray, List.set_cons_succ, List.set_cons_zero, List.getElem_toArray, List.getElem_cons_zero, List.getElem_cons_succ]
                refine hl_take ?v48 rfl (by kernel_rfl) ?y48 ?z48
                case y48 => intro W hW; have := v1_; have := v2_; have := v2n; have := v3_; have := v4_; have := v5_; (try have := s10); replace hW := Lib.hid hW; go_simp; try rfl
                case z48 =>
                simp only [Act.put, List.setIfInBounds_toArray, List.set_cons_succ, List.set_cons_zero, List.getElem_toArray, List.getElem_cons_zero, List.getElem_cons_succ]
                refine hl_take ?v49 rfl (by kernel_rfl) ?y49 ?z49
                case y49 => intro W hW; have := v1_; have := v2_; have := v2n; have := v3_; have := v4_; have := v5_; (try have := s10); replace hW := Lib.hid hW; go_simp; try rfl
                case z49 =>
                simp only [Act.put, List.setIfInBounds_toArray, List.set_cons_succ, List.set_cons_zero, List.getElem_toArray, List.getElem_cons_zero, List.getElem_cons_succ]
                refine hl_take ?v50 rfl (by kernel_rfl) ?y50 ?z50
                case y50 => intro W hW; have := v1_; have := v2_; have := v2n; have := v3_; have := v4_; have := v5_; (try have := s10); replace hW := Lib.hid hW; go_simp; try rfl
                case z50 =>
                simp only [Act.put, List.setIfInBounds_toArray, List.set_cons_succ, List.set_cons_zero, List.getElem_toArray, List.getElem_cons_zero, List.getElem_cons_succ]
                refine hl_take ?v51 rfl (by kernel_rfl) ?y51 ?z51
                case y51 => intro W hW; have := v1_; have := v2_; have := v2n; have := v3_; have := v4_; have := v5_; (try have := s10); replace hW := Lib.hid hW; go_simp; try rfl
                case z51 =>
                simp only [Act.put, List.setIfInBounds_toArray, List.set_cons_succ, List.set_cons_zero, List.getElem_toArray, List.getElem_cons_zero, List.getElem_cons_succ]
                refine hl_take ?v52 rfl (by kernel_rfl) ?y52 ?z52
                case y52 => intro W hW; have := v1_; have := v2_; have := v2n; have := v3_; have := v4_; have := v5_; (try have := s10); replace hW := Lib.hid hW; go_simp; try rfl
                case z52 =>
                simp only [Act.put, List.setIfInBounds_toArray, List.set_cons_succ, List.set_cons_zero, List.getElem_toArray, List.getElem_cons_zero, List.getElem_cons_succ]
                refine hl_take ?v53 rfl (by kernel_rfl) ?y53 ?z53
                case y53 => intro W hW; obtain ⟨_, e0, e1, e2, _⟩ := (show Sep _ _ from hW).b3; obtain ⟨_, f0, f1, f2, _⟩ := ((show Sep _ _ from hW).bring 3 rfl).b3; obtain ⟨g0, _, _⟩ := ((show Sep _ _ from hW).bring 4 rfl).vec_cell (w64_at want2 j hjw.out); rw [hwx.out] at g0; replace hW := Lib.hid hW; go_simp; try rfl
                case z53 =>
                simp only [Act.put, List.setIfInBounds_toArray, List.set_cons_succ, List.set_cons_zero, List.getElem_toArray, List.getElem_cons_zero, List.getElem_cons_succ]
                refine hl_take ?v54 rfl (by kernel_rfl) ?y54 ?z54
                case y54 => intro W hW; have := v1_; have := v2_; have := v2n; have := v3_; have := v4_; have := v5_; (try have := s10); replace hW := Lib.hid hW; go_simp; try rfl
                case z54 =>
                simp only [Act.put, List.setIfInBounds_toArray, List.set_cons_succ, List.set_cons_zero, List.getElem_toArray, List.getElem_cons_zero, List.getElem_cons_succ]
                refine hl_one rfl (by kernel_rfl) (fun K hK => ?_)
                go_simp
                refine (now_any p (now + y) _ _ _ (show Sep _ _ from hS.out.bring 2 rfl)).mono ?_
                rintro e w5 ⟨rfl, hw5⟩
                subst hw5
                refine hK.out _ _ hS.out ?_
                clear hK K
                try simp only [Act.put, List.setIfInBounds_toArray, List.set_cons_succ, List.set_cons_zero, List.getElem_toArray, List.getElem_cons_zero, List.getElem_cons_succ]
                refine hl_take ?v55 rfl (by kernel_rfl) ?y55 ?z55
                case y55 => intro W hW; have := v1_; have := v2_; have := v2n; have := v3_; have := v4_; have := v5_; (try have := s10); replace hW := Lib.hid hW; go_simp; try rfl
                case z55 =>
                simp only [Act.put, List.setIfInBounds_toArray, List.set_cons_succ, List.set_cons_zero, List.getElem_toArray, List.getElem_cons_zero, List.getElem_cons_succ]
                refine hl_take ?v56 rfl (by kernel_rfl) ?y56 ?z56
                case y56 => intro W hW; have := v1_; have := v2_; have := v2n; have := v3_; have := v4_; have := v5_; (try have := s10); replace hW := Lib.hid hW; go_simp; try rfl
                case z56 =>
                simp only [Act.put, List.setIfInBounds_toArray, List.set_cons_succ, List.set_cons_zero, List.getElem_toArray, List.getElem_cons_zero, List.getElem_cons_succ]
                refine hl_take ?v57 rfl (by kernel_rfl) ?y57 ?z57
                case y57 => intro W hW; have := v1_; have := v2_; have := v2n; have := v3_; have := v4_; have := v5_; (try have := s10); replace hW := Lib.hid hW; go_simp; try rfl
                case z57 =>
                simp only [Act.put, List.setIfInBounds_toArray, List.set_cons_succ, List.set_cons_zero, List.getElem_toArray, List.getElem_cons_zero, List.getElem_cons_succ]
                refine hl_take ?v58 rfl (by kernel_rfl) ?y58 ?z58
                case y58 => intro W hW; have := v1_; have := v2_; have := v2n; have := v3_; have := v4_; have := v5_; (try have := s10); replace hW := Lib.hid hW; go_simp; try rfl
                case z58 =>
                simp only [Act.put, List.setIfInBounds_toArray, List.set_cons_succ, List.set_cons_zero, List.getElem_toArray, List.getElem_cons_zero, List.getElem_cons_succ]
                refine hl_take ?v59 rfl (by kernel_rfl) ?y59 ?z59
                case y59 => intro W hW; obtain ⟨_, e0, e1, e2, _⟩ := (show Sep _ _ from hW).b3; obtain ⟨_, f0, f1, f2, _⟩ := ((show Sep _ _ from hW).bring 3 rfl).b3; obtain ⟨g0, _, _⟩ := ((show Sep _ _ from hW).bring 4 rfl).vec_cell (w64_at want2 j hjw.out); rw [hwx.out] at g0; replace hW := Lib.hid hW; go_simp; try rfl
                case z59 =>
                simp only [Act.put, List.setIfInBounds_toArray, List.set_cons_succ, List.set_cons_zero, List.getElem_toArray, List.getElem_cons_zero, List.getElem_cons_succ]
                refine hl_take ?v60 rfl (by kernel_rfl) ?y60 ?z60
                case y60 => intro W hW; have := v1_; have := v2_; have := v2n; have := v3_; have := v4_; have := v5_; (try have := s10); replace hW := Lib.hid hW; go_simp; try rfl
                case z60 =>
                simp only [Act.put, List.setIfInBounds_toArray, List.set_cons_succ, List.set_cons_zero, List.getElem_toArray, List.getElem_cons_zero, List.getElem_cons_succ]
                refine hl_take ?v61 rfl (by kernel_rfl) ?y61 ?z61
                case y61 => intro W hW; obtain ⟨_, e0, e1, e2, _⟩ := (show Sep _ _ from hW).b3; obtain ⟨_, f0, f1, f2, _⟩ := ((show Sep _ _ from hW).bring 3 rfl).b3; obtain ⟨g0, _, _⟩ := ((show Sep _ _ from hW).bring 4 rfl).vec_cell (w64_at want2 j hjw.out); rw [hwx.out] at g0; replace hW := Lib.hid hW; go_simp; try rfl
                case z61 =>
                simp only [Act.put, List.setIfInBounds_toArray, List.set_cons_succ, List.set_cons_zero, List.getElem_toArray, List.getElem_cons_zero, List.getElem_cons_succ]
                refine hl_take ?v62 rfl (by kernel_rfl) ?y62 ?z62
                case y62 => intro W hW; have := v1_; have := v2_; have := v2n; have := v3_; have := v4_; have := v5_; (try have := s10); replace hW := Lib.hid hW; go_simp; try rfl
                case z62 =>
                simp only [Act.put, List.setIfInBounds_toArray, List.set_cons_succ, List.set_cons_zero, List.getElem_toArray, List.getElem_cons_zero, List.getElem_cons_succ]
                refine hl_take ?v63 rfl (by kernel_rfl) ?y63 ?z63
                case y63 => intro W hW; have := v1_; have := v2_; have := v2n; have := v3_; have := v4_; have := v5_; (try have := s10); replace hW := Lib.hid hW; go_simp; try rfl
                case z63 =>
                simp only [Act.put, List.setIfInBounds_toArray, List.set_cons_succ, List.set_cons_zero, List.getElem_toArray, List.getElem_cons_zero, List.getElem_cons_succ]
                refine hl_take ?v64 rfl (by kernel_rfl) ?y64 ?z64
                case y64 => intro W hW; have := v1_; have := v2_; have := v2n; have := v3_; have := v4_; have := v5_; (try have := s10); replace hW := Lib.hid hW; go_simp; try rfl
                case z64 =>
                simp only [Act.put, List.setIfInBounds_toArray, List.set_cons_succ, List.set_cons_zero, List.getElem_toArray, List.getElem_cons_zero, List.getElem_cons_succ]
                refine hl_take ?v65 rfl (by kernel_rfl) ?y65 ?z65
                case y65 => intro W hW; have := v1_; have := v2_; have := v2n; have := v3_; have := v4_; have := v5_; (try have := s10); replace hW := Lib.hid hW; go_simp; try rfl
                case z65 =>
                simp only [Act.put, List.setIfInBounds_toArray, List.set_cons_succ, List.set_cons_zero, List.getElem_toArray, List.getElem_cons_zero, List.getElem_cons_succ]
                refine hl_take ?v66 rfl (by kernel_rfl) ?y66 ?z66
                case y66 => intro W hW; obtain ⟨_, e0, e1, e2, _⟩ := (show Sep _ _ from hW).b3; obtain ⟨_, f0, f1, f2, _⟩ := ((show Sep _ _ from hW).bring 3 rfl).b3; obtain ⟨g0, _, _⟩ := ((show Sep _ _ from hW).bring 4 rfl).vec_cell (w64_at want2 j hjw.out); rw [hwx.out] at g0; replace hW := Lib.hid hW; go_simp; try rfl
                case z66 =>
                simp only [Act.put, List.setIfInBounds_toArray, List.set_cons_succ, List.set_cons_zero, List.getElem_toArray, List.getElem_cons_zero, List.getElem_cons_succ]
                refine hl_take ?v67 rfl (by kernel_rfl) ?y67 ?z67
                case y67 => intro W hW; have := v1_; have := v2_; have := v2n; have := v3_; have := v4_; have := v5_; (try have := s10); replace hW := Lib.hid hW; go_simp; try rfl
                case z67 =>
                simp only [Act.put, List.setIfInBounds_toArray, List.set_cons_succ, List.set_cons_zero, List.getElem_toArray, List.getElem_cons_zero, List.getElem_cons_succ]
                refine hl_take ?v68 rfl (by kernel_rfl) ?y68 ?z68
                case y68 => intro W hW; obtain ⟨_, e0, e1, e2, _⟩ := (show Sep _ _ from hW).b3; obtain ⟨_, f0, f1, f2, _⟩ := ((show Sep _ _ from hW).bring 3 rfl).b3; obtain ⟨g0, _, _⟩ := ((show Sep _ _ from hW).bring 4 rfl).vec_cell (w64_at want2 j hjw.out); rw [hwx.out] at g0; replace hW := Lib.hid hW; go_simp; try rfl
                case z68 =>
                simp only [Act.put, List.setIfInBounds_toArray, List.set_cons_succ, List.set_cons_zero, List.getElem_toArray, List.getElem_cons_zero, List.getElem_cons_succ]
                refine hl_take ?v69 rfl (by kernel_rfl) ?y69 ?z69
                case y69 => intro W hW; have := v1_; have := v2_; have := v2n; have := v3_; have := v4_; have := v5_; (try have := s10); replace hW := Lib.hid hW; go_simp; try rfl
                case z69 =>
                simp only [Act.put, List.setIfInBounds_toArray, List.set_cons_succ, List.set_cons_zero, List.getElem_toArray, List.getElem_cons_zero, List.getElem_cons_succ]
                refine hl_take ?v70 rfl (by kernel_rfl) ?y70 ?z70
                case y70 => intro W hW; have := v1_; have := v2_; have := v2n; have := v3_; have := v4_; have := v5_; (try have := s10); replace hW := Lib.hid hW; go_simp; try rfl
                case z70 =>
                simp only [Act.put, List.setIfInBounds_toArray, List.set_cons_succ, List.set_cons_zero, List.getElem_toArray, List.getElem_cons_zero, List.getElem_cons_succ]
                cases hq : (x0 == l0) with
                | false =>
                  clear hq
                  refine hl_skip rfl (by kernel_rfl) ?_
                  simp only [Act.put, List.setIfInBounds_toArray, List.set_cons_succ, List.set_cons_zero, List.getElem_toArray, List.getElem_cons_zero, List.getElem_cons_succ]
                  refine hl_skip rfl (by kernel_rfl) ?_
                  simp only [Act.put, List.setIfInBounds_toArray, List.set_cons_succ, List.set_cons_zero, List.getElem_toArray, List.getElem_cons_zero, List.getElem_cons_succ]
                  refine hl_skip rfl (by kernel_rfl) ?_
                  simp only [Act.put, List.setIfInBounds_toArray, List.set_cons_succ, List.set_cons_zero, List.getElem_toArray, List.getElem_cons_zero, List.getElem_cons_succ]
                  refine hl_skip rfl (by kernel_rfl) ?_
                  simp only [Act.put, List.setIfInBounds_toArray, List.set_cons_succ, List.set_cons_zero, List.getElem_toArray, List.getElem_cons_zero, List.getElem_cons_succ]
                  refine hl_skip rfl (by kernel_rfl) ?_
                  simp only [Act.put, List.setIfInBounds_toArray, List.set_cons_succ, List.set_cons_zero, List.getElem_toArray, List.getElem_cons_zero, List.getElem_cons_succ]
                  refine hl_take ?v71 rfl (by kernel_rfl) ?y71 ?z71
                  case y71 => intro W hW; have := v1_; have := v2_; have := v2n; have := v3_; have := v4_; have := v5_; (try have := s10); replace hW := Lib.hid hW; go_simp; try rfl
                  case z71 =>
                  simp only [Act.put, List.setIfInBounds_toArray, List.set_cons_succ, List.set_cons_zero, List.getElem_toArray, List.getElem_cons_zero, List.getElem_cons_succ]
                  refine hl_take ?v72 rfl (by kernel_rfl) ?y72 ?z72
                  case y72 => intro W hW; have := v1_; have := v2_; have := v2n; have := v3_; have := v4_; have := v5_; (try have := s10); replace hW := Lib.hid hW; go_simp; try rfl
                  case z72 =>
                  simp only [Act.put, List.setIfInBounds_toArray, List.set_cons_succ, List.set_cons_zero, List.getElem_toArray, List.getElem_cons_zero, List.getElem_cons_succ]
                  refine hl_done ?_
                  go_wp2_with fail
                  obtain ⟨_, e0, e1, e2, ef0, ef1, ef2⟩ := (show Sep _ _ from hS.out).b3
                  obtain ⟨_, f0, f1, f2, ff0, ff1, ff2⟩ := ((show Sep _ _ from hS.out).bring 3 rfl).b3
                  obtain ⟨g0, gf0, glt⟩ := ((show Sep _ _ from hS.out).bring 4 rfl).vec_cell (w64_at want2 j hjw.out)
                  rw [hwx.out] at g0
                  have hne1 : gw ≠ lb := (((show Sep _ _ from hS.out).bring 4 rfl).bring 4 rfl).to1.vec_ne
                  have hne2 : lb ≠ gw := fun e => hne1 e.symm
                  have hne3 : gw ≠ X := ((show Sep _ _ from hS.out).bring 4 rfl).vec_ne
                  have hne4 : X ≠ gw := fun e => hne3 e.symm
                  have hS7 := ((((((show Sep _ _ from hS.out).bring 4 rfl).vec_set (k := j) hjl.out (.int .i64 0)).bring 4 rfl).set 0 (.int .i64 x0)).set 1 (.int .i64 (j : Int))).set 2 (.int .i64 7)
                  rw [hws.out] at hS7
                  replace hS7 := Lib.hid hS7
                  go_region
                  go_wp2_with fail
                  have hS8 := Lib.hid ((((hS7.out.drew.bring 2 rfl).tail.bring 3 rfl).bring 3 rfl))
                  go_roundw
                  case rel => exact ⟨q + 1, want2.set j 0, (x0, (j : Int), 7), by omega, by go_num, hM2, hw2, hAf2, hS8⟩
                  case measure => simp [intOf]; omega
                | true =>
                  have s10 : decide ((j : Int) ≤ l1) = false := by refine decide_eq_false ?_; have h1_ := t3.out; unfold After at h1_; simp only at h1_; have h2_ : x0 = l0 := (by simpa using hq); omega
                  clear hq
                  refine hl_take ?v73 rfl (by kernel_rfl) ?y73 ?z73
                  case y73 => intro W hW; have := v1_; have := v2_; have := v2n; have := v3_; have := v4_; have := v5_; (try have := s10); replace hW := Lib.hid hW; go_simp; try rfl
                  case z73 =>
                  simp only [Act.put, List.setIfInBounds_toArray, List.set_cons_succ, List.set_cons_zero, List.getElem_toArray, List.getElem_cons_zero, List.getElem_cons_succ]
                  refine hl_take ?v74 rfl (by kernel_rfl) ?y74 ?z74
                  case y74 => intro W hW; obtain ⟨_, e0, e1, e2, _⟩ := (show Sep _ _ from hW).b3; obtain ⟨_, f0, f1, f2, _⟩ := ((show Sep _ _ from hW).bring 3 rfl).b3; obtain ⟨g0, _, _⟩ := ((show Sep _ _ from hW).bring 4 rfl).vec_cell (w64_at want2 j hjw.out); rw [hwx.out] at g0; replace hW := Lib.hid hW; go_simp; try rfl
                  case z74 =>
                  simp only [Act.put, List.setIfInBounds_toArray, List.set_cons_succ, List.set_cons_zero, List.getElem_toArray, List.getElem_cons_zero, List.getElem_cons_succ]
                  refine hl_take ?v75 rfl (by kernel_rfl) ?y75 ?z75
                  case y75 => intro W hW; have := v1_; have := v2_; have := v2n; have := v3_; have := v4_; have := v5_; (try have := s10); replace hW := Lib.hid hW; go_simp; try rfl
                  case z75 =>
                  simp only [Act.put, List.setIfInBounds_toArray, List.set_cons_succ, List.set_cons_zero, List.getElem_toArray, List.getElem_cons_zero, List.getElem_cons_succ]
                  refine hl_take ?v76 rfl (by kernel_rfl) ?y76 ?z76
                  case y76 => intro W hW; obtain ⟨_, e0, e1, e2, _⟩ := (show Sep _ _ from hW).b3; obtain ⟨_, f0, f1, f2, _⟩ := ((show Sep _ _ from hW).bring 3 rfl).b3; obtain ⟨g0, _, _⟩ := ((show Sep _ _ from hW).bring 4 rfl).vec_cell (w64_at want2 j hjw.out); rw [hwx.out] at g0; replace hW := Lib.hid hW; go_simp; try rfl
                  case z76 =>
                  simp only [Act.put, List.setIfInBounds_toArray, List.set_cons_succ, List.set_cons_zero, List.getElem_toArray, List.getElem_cons_zero, List.getElem_cons_succ]
                  refine hl_take ?v77 rfl (by kernel_rfl) ?y77 ?z77
                  case y77 => intro W hW; have := v1_; have := v2_; have := v2n; have := v3_; have := v4_; have := v5_; (try have := s10); replace hW := Lib.hid hW; go_simp; try rfl
                  case z77 =>
                  simp only [Act.put, List.setIfInBounds_toArray, List.set_cons_succ, List.set_cons_zero, List.getElem_toArray, List.getElem_cons_zero, List.getElem_cons_succ]
                  refine hl_take ?v78 rfl (by kernel_rfl) ?y78 ?z78
                  case y78 => intro W hW; have := v1_; have := v2_; have := v2n; have := v3_; have := v4_; have := v5_; (try have := s10); replace hW := Lib.hid hW; go_simp; try rfl
                  case z78 =>
                  simp only [Act.put, List.setIfInBounds_toArray, List.set_cons_succ, List.set_cons_zero, List.getElem_toArray, List.getElem_cons_zero, List.getElem_cons_succ]
                  refine hl_take ?v79 rfl (by kernel_rfl) ?y79 ?z79
                  case y79 => intro W hW; have := v1_; have := v2_; have := v2n; have := v3_; have := v4_; have := v5_; (try have := s10); replace hW := Lib.hid hW; go_simp; try rfl
                  case z79 =>
                  simp only [Act.put, List.setIfInBounds_toArray, List.set_cons_succ, List.set_cons_zero, List.getElem_toArray, List.getElem_cons_zero, List.getElem_cons_succ]
                  refine hl_done ?_
                  go_wp2_with fail
                  obtain ⟨_, e0, e1, e2, ef0, ef1, ef2⟩ := (show Sep _ _ from hS.out).b3
                  obtain ⟨_, f0, f1, f2, ff0, ff1, ff2⟩ := ((show Sep _ _ from hS.out).bring 3 rfl).b3
                  obtain ⟨g0, gf0, glt⟩ := ((show Sep _ _ from hS.out).bring 4 rfl).vec_cell (w64_at want2 j hjw.out)
                  rw [hwx.out] at g0
                  have hne1 : gw ≠ lb := (((show Sep _ _ from hS.out).bring 4 rfl).bring 4 rfl).to1.vec_ne
                  have hne2 : lb ≠ gw := fun e => hne1 e.symm
                  have hne3 : gw ≠ X := ((show Sep _ _ from hS.out).bring 4 rfl).vec_ne
                  have hne4 : X ≠ gw := fun e => hne3 e.symm
                  have hS7 := ((((((show Sep _ _ from hS.out).bring 4 rfl).vec_set (k := j) hjl.out (.int .i64 0)).bring 4 rfl).set 0 (.int .i64 x0)).set 1 (.int .i64 (j : Int))).set 2 (.int .i64 7)
                  rw [hws.out] at hS7
                  replace hS7 := Lib.hid hS7
                  go_region
                  go_wp2_with fail
                  have hS8 := Lib.hid ((((hS7.out.drew.bring 2 rfl).tail.bring 3 rfl).bring 3 rfl))
                  go_roundw
                  case rel => exact ⟨q + 1, want2.set j 0, (x0, (j : Int), 7), by omega, by go_num, hM2, hw2, hAf2, hS8⟩
                  case measure => simp [intOf]; omega
              · obtain rfl : q = m := by omega
                have hS9 := Lib.hid ((hS.out.tail.bring 2 rfl).bring 2 rfl)
                have hn9 := Lib.hid (show 0 ≤ now + y ∧ now + y ≤ 255 * ((i + 1 : Nat) : Int) by have := n0_.out; have := n1_.out; omega)
                have hl9 := Lib.hid (show (L.drop q).length ≤ 40 by rw [List.length_drop]; have := hL.out; omega)
                clear hS n0_ n1_
                go_wp2_with fail
                go_roundw
                case rel => exact ⟨i + 1, now + y, want2, L.drop q, (l0, l1, l2), by omega, by go_num, hn9, hM, hw, hl9, hm3, hAf, hS9⟩
                case measure => simp [intOf]; omega
          · obtain rfl : i = n2 := by omega
            have hcnt := Lib.hid (mir_count hM.out (clock_srt (hS.out.bring 2 rfl)).1)
            clear hnow hAf
            go_wp2_with fail
            go_loopw [19, 20] (fun s19 s20 wr => ∃ q : Nat, q ≤ k ∧ s19 = .int .i64 (cntU want q : Nat) ∧ s20 = .int .i64 q ∧ Hid (Sep wr [blk lb 34 #[.int .i64 last.1, .int .i64 last.2.1, .int .i64 last.2.2], wVec (.slice wa k wc) k want, clockR p now L, old w1])) (fun _ s20 _ => k - (intOf s20).toNat)
            case atStart => exact ⟨0, Nat.zero_le _, rfl, rfl, hS⟩
            case round =>
              clear hS
              obtain ⟨q, hq, rfl, rfl, hS⟩ := hrel
              have hcl := Lib.hid (cntU_le want q)
              by_cases hlq : q < k
              · obtain ⟨gw, rfl⟩ := vecI_some hS.out.to1 (by omega)
                have hql := Lib.hid (show q < want.length by rw [hw.out]; exact hlq)
                obtain ⟨g0, _, _⟩ := hS.out.to1.vec_cell (w64_at want q hql.out)
                have s8 : (0 : Int) ≤ (q : Int) := by omega
                have s9 : (q : Int) < (k : Int) := by omega
                by_cases hv : 0 < want.getD q 0
                · have hlate := hpos.out _ (mir_mem hM.out hql.out hv)
                  simp only at hlate
                  have hcn := cntU_hit hv
                  obtain ⟨v, hvx⟩ : ∃ v, want.getD q 0 = v := ⟨_, rfl⟩
                  rw [hvx] at g0 hv hlate
                  have hvl : ¬ v ≤ now := by omega
                  have hvd : decide (v ≤ now) = false := decide_eq_false hvl
                  replace hvx := Lib.hid hvx
                  have hcq : cntU want q ≤ 40 := by have := hcl.out; omega
                  have hcn2 : ((cntU want (q + 1) : Nat) : Int) = (cntU want q : Int) + 1 := by rw [hcn]; rfl
                  replace hcn2 := Lib.hid hcn2
                  clear hcn
                  go_wp2_with fail
                  have hS := Lib.hid (show (fun V : World => Sep V [blk lb 34 #[.int .i64 last.1, .int .i64 last.2.1, .int .i64 last.2.2], wVec (.slice (some ⟨gw, 0, none⟩) k wc) k want, clockR p now L, old w1]) _ from hS.out.drew)
                  refine hl_begin (fun V : World => Sep V [blk lb 34 #[.int .i64 last.1, .int .i64 last.2.1, .int .i64 last.2.2], wVec (.slice (some ⟨gw, 0, none⟩) k wc) k want, clockR p now L, old w1]) [(0, true), (1, true), (2, true), (3, true), (4, true), (5, false), (6, true)] (by kernel_rfl) (by kernel_rfl) (by kernel_rfl) rfl (fun _ _ _ _ _ h => h) hS.out ?_
                  change HL _ _ _ _ _ _ (World.drew _)
                  generalize World.drew _ = wd at *
                  refine hl_take ?v14 rfl (by kernel_rfl) ?y14 ?z14
                  case y14 => intro W hW; have := hvd; replace hW := Lib.hid hW; go_simp; try rfl
                  case z14 =>
                  simp only [Act.put, List.setIfInBounds_toArray, List.set_cons_succ, List.set_cons_zero, List.getElem_toArray, List.getElem_cons_zero, List.getElem_cons_succ]
                  refine hl_take ?v15 rfl (by kernel_rfl) ?y15 ?z15
                  case y15 => intro W hW; have := hvd; replace hW := Lib.hid hW; go_simp; try rfl
                  case z15 =>
                  simp only [Act.put, List.setIfInBounds_toArray, List.set_cons_succ, List.set_cons_zero, List.getElem_toArray, List.getElem_cons_zero, List.getElem_cons_succ]
                  refine hl_take ?v16 rfl (by kernel_rfl) ?y16 ?z16
                  case y16 => intro W hW; have := hvd; replace hW := Lib.hid hW; go_simp; try rfl
                  case z16 =>
                  simp only [Act.put, List.setIfInBounds_toArray, List.set_cons_succ, List.set_cons_zero, List.getElem_toArray, List.getElem_cons_zero, List.getElem_cons_succ]
                  refine hl_take ?v17 rfl (by kernel_rfl) ?y17 ?z17
                  case y17 => intro W hW; obtain ⟨g1, _, _⟩ := (show Sep _ _ from hW).to1.vec_cell (w64_at want q hql.out); rw [hvx.out] at g1; replace hW := Lib.hid hW; go_simp; try rfl
                  case z17 =>
                  simp only [Act.put, List.setIfInBounds_toArray, List.set_cons_succ, List.set_cons_zero, List.getElem_toArray, List.getElem_cons_zero, List.getElem_cons_succ]
                  refine hl_take ?v18 rfl (by kernel_rfl) ?y18 ?z18
                  case y18 => intro W hW; have := hvd; replace hW := Lib.hid hW; go_simp; try rfl
                  case z18 =>
                  simp only [Act.put, List.setIfInBounds_toArray, List.set_cons_succ, List.set_cons_zero, List.getElem_toArray, List.getElem_cons_zero, List.getElem_cons_succ]
                  refine hl_one rfl (by kernel_rfl) (fun K hK => ?_)
                  go_simp
                  refine (now_any p now L _ _ (show Sep _ _ from hS.out.bring 2 rfl)).mono ?_
                  rintro e w5 ⟨rfl, hw5⟩
                  subst hw5
                  refine hK.out _ _ hS.out ?_
                  clear hK K
                  try simp only [Act.put, List.setIfInBounds_toArray, List.set_cons_succ, List.set_cons_zero, List.getElem_toArray, List.getElem_cons_zero, List.getElem_cons_succ]
                  refine hl_take ?v19 rfl (by kernel_rfl) ?y19 ?z19
                  case y19 => intro W hW; have := hvd; replace hW := Lib.hid hW; go_simp; try rfl
                  case z19 =>
                  simp only [Act.put, List.setIfInBounds_toArray, List.set_cons_succ, List.set_cons_zero, List.getElem_toArray, List.getElem_cons_zero, List.getElem_cons_succ]
                  refine hl_done ?_
                  go_wp2_with fail
                  go_roundw
                  case rel => exact ⟨q + 1, by omega, by first | (rw [hcn2.out]; done) | (rw [hcn2.out]; go_num), by go_num, Lib.hid hS.out⟩
                  case measure => simp [intOf]; omega
                · have hcn := Lib.hid (cntU_miss hv)
                  obtain ⟨v, hvx⟩ : ∃ v, want.getD q 0 = v := ⟨_, rfl⟩
                  rw [hvx] at g0 hv
                  replace hvx := Lib.hid hvx
                  go_wp2_with fail
                  go_roundw
                  case rel => exact ⟨q + 1, by omega, by rw [hcn.out], by go_num, hS⟩
                  case measure => simp [intOf]; omega
              · obtain rfl : q = k := by omega
                have HLn := Lib.hid (clen_any p now L wr _ (hS.out.bring 2 rfl))
                rw [show ((L.length : Nat) : Int) = ((cntU want q : Nat) : Int) by rw [hcnt.out, hw.out]] at HLn
                go_wp2_with fail
                refine HLn.out.mono ?_
                rintro e w9 ⟨rfl, rfl⟩
                go_wp2_with fail
                go_ret
                exact ⟨rfl, b1.out.trans ((hS.out.bring 3 rfl).gold.mono b1.out.size)⟩
      replace aKT := Lib.hid aKT
      go_loopw [11] (fun s wr => ∃ (i : Nat) (want : List Int) (L : List Tm), i ≤ k ∧ s = .int .i64 i ∧ Hid (Mir want L) ∧ Hid (want.length = k) ∧ Hid (∀ j, i ≤ j → j < k → 0 < want.getD j 0) ∧ Hid (L.length ≤ 40) ∧ Hid (Sep wr [wVec (.slice wa k wc) k want, clockR p 0 L, old w1])) (fun s _ => k - (intOf s).toNat)
      case atStart => exact ⟨0, want, L, Nat.zero_le _, rfl, hM, hw, Lib.hid (fun j _ hj => hP.out j hj), Lib.hid (by rw [hL.out]; omega), hS⟩
      case round =>
        clear hM hw hP hL hS
        obtain ⟨i, want, L, hik, rfl, hM, hw, hP, hL, hS⟩ := hrel
        have hpos := Lib.hid (fun x hx => ((hM.out x).1 hx).2.2.2.2)
        by_cases hlt : i < k
        · have l1 : (i : Int) < (k : Int) := by omega
          by_cases hlt1 : i < n1
          · have l2 : (i : Int) < (n1 : Int) := by omega
            have l0 : (0 : Int) ≤ (i : Int) := by omega
            obtain ⟨_, _, hc⟩ := h1.out
            obtain ⟨b, off, rfl, hb, hc⟩ := hc (by omega)
            have z := hc i hlt1
            rw [← old_cell b1.out (hS.out.bring 2 rfl) _ _ hb] at z
            clear hc hb
            generalize z1 i = y at *
            cases y with
            | false =>
              have hP2 := Lib.hid (fun j (h : i + 1 ≤ j) hj => hP.out j (by omega) hj)
              clear hP htail hpos
              go_wp2_with fail
              go_roundw
              case rel => exact ⟨i + 1, want, L, by omega, by go_num, hM, hw, hP2, hL, hS⟩
              case measure => simp [intOf]; omega
            | true =>
              have hpi := hP.out i (Nat.le_refl _) hlt
              obtain ⟨ss, sk⟩ := clock_srt hS.out.to1
              have HD := Lib.hid (drop_yes p 0 L i 7 wr _ hS.out.to1 (mir_has hM.out (by rw [hw.out]; exact hlt) hpi) (by have := hL.out; omega))
              have hM2 := Lib.hid (mir_drop hM.out ss sk (by rw [hw.out]; exact hlt) hpi)
              have hw2 := Lib.hid (show (want.set i 0).length = k by rw [List.length_set]; exact hw.out)
              have hP2 := Lib.hid (show ∀ j, i + 1 ≤ j → j < k → 0 < (want.set i 0).getD j 0 by
                intro j h hj
                rw [getD_set _ _ _ (by rw [hw.out]; exact hlt), if_neg (by omega)]
                exact hP.out j (by omega) hj)
              have hL2 := Lib.hid (show (L.eraseP (keyB (i : Int) 7)).length ≤ 40 from Nat.le_trans (List.length_eraseP_le) hL.out)
              have hws := Lib.hid (w64_set want i 0)
              have hwl := Lib.hid (show i < (w64 want).length by simp [w64, hw.out]; exact hlt)
              generalize L.eraseP (keyB (i : Int) 7) = L2 at *
              clear hP htail hpos ss sk hpi hM hL hS
              go_wp2_with fail
              refine HD.out.mono ?_
              rintro e w3 ⟨rfl, hS⟩
              obtain ⟨g, rfl⟩ : ∃ g, wa = some ⟨g, 0, none⟩ := vecI_some hS.to1 (by omega)
              have y0 := hS.to1.vec_cell (w64_at want i (by rw [hw.out]; exact hlt))
              obtain ⟨y0, y1, _⟩ := y0
              replace hS := Lib.hid hS.to1
              clear HD
              go_wp2_with fail
              have hS5 := Lib.hid (hS.out.vec_set hwl.out (.int .i64 0))
              rw [hws.out] at hS5
              go_roundw
              case rel => exact ⟨i + 1, want.set i 0, L2, by omega, by go_num, hM2, hw2, hP2, hL2, hS5⟩
              case measure => simp [intOf]; omega
          · have l2 : ¬ (i : Int) < (n1 : Int) := by omega
            clear hP
            go_wp2_with fail
            exact htail.out _ _ _ _ _ _ _ _ _ _ _ _ _ _ _ _ _ _ _ _ _ _ _ _ _ want L _ hM hw hL hpos hS
        · have l1 : ¬ (i : Int) < (k : Int) := by omega
          clear hP
          go_wp2_with fail
          exact htail.out _ _ _ _ _ _ _ _ _ _ _ _ _ _ _ _ _ _ _ _ _ _ _ _ _ want L _ hM hw hL hpos hS
end Go.Proofs.Ytcbjgibcgalppaa
