/-
  The walk of VictimRing. No condition beside an argument that can be read.
-/
import Derived.Test.YthbamhfnemdebaaVRg
import Derived.Test.YthbamhfnemdebaaOpen
import Derived.Test.YthbamhfnemdebaaPick
namespace Go.Proofs.Ythbamhfnemdebaa
open Go.RowKit
theorem info_ag : (Try.prog.info? 43).map (fun i => (i.zero, i.size, i.bytes)) = some (some (.agg #[.int .i64 0, .int .i64 0]), 2, 16) := by kernel_rfl
theorem Sep.vec_ptr {w : World} {e : TypeId} {sz n c : Nat} {a : Option Addr} {cs : List Value} {rs : List Res} (h : Sep w (vec e sz (.slice a n c) n cs :: rs)) (h0 : 0 < n) : ∃ g, a = some ⟨g, 0, none⟩ := by
  rcases h.gvec.2 with ⟨_, h1⟩ | ⟨g, cap, cur, hv, _⟩
  · omega
  · injection hv with e1 _ _
    exact ⟨g, e1⟩
theorem modI (k N : Nat) : ((k : Int) + 1).tmod (N : Int) = (((k + 1) % N : Nat) : Int) := by
  rw [Int.tmod_eq_emod_of_nonneg (by omega)]
  rfl
set_option maxHeartbeats 8000000 in
set_option maxRecDepth 100000 in
theorem ring_walk (n0 : Int) (a : Option Addr) (len cap : Nat) (z : List Int) (tail : Int) (w : World) (hz : IsInts .i64 w a len cap z) :
    Calls Try.prog 5 #[.int .i64 n0, .slice a len cap, .int .i64 tail] w fun e w' => e = .returned (.bool true) ∧ Below w.heap.size w w' := by
  by_cases h20 : len ≤ 20
  · have i20 : ¬ ((20 : Int) < (len : Int)) := by omega
    obtain ⟨N1, hP⟩ := pick_nat n0 12 (by omega) (by omega)
    have hN := hP.lt
    have hrun := hP.run
    obtain ⟨i0, hi0, hz0, hz1, hz2⟩ := info_parts info_ed
    obtain ⟨j0, hj0, hy0, hy1, hy2⟩ := info_parts info_ag
    have h1c : Hid (∀ x y, ∀ u ∈ ([.int .i64 x, .int .i64 y] : List Value), u.oneCell' = true) := Lib.hid (by simp [Value.oneCell'])
    clear hP
    have hz' := Lib.hid hz.2.2.2
    clear hz
    go_enter Try.func5, Try.ntmps5
    go_wp2_with fail
    refine (lives_any _).mono ?_
    rintro e w1 ⟨rfl, q⟩
    have hV := Lib.hid (((Sep.start w).below q).vec_nil 43 2 |>.vec_nil 29 2)
    clear q
    go_wp2_with fail
    refine (hrun.out _).mono ?_
    rintro e w2 ⟨rfl, rfl⟩
    go_wp2_with fail
    have hN12 : 1 + N1 ≤ 12 := by omega
    obtain ⟨ag, hag⟩ : ∃ ag : Nat → Int, Hid (∀ i, ag i = if i < len then z.getD i 0 else 0) := ⟨_, Lib.hid (fun _ => rfl)⟩
    clear hrun
    go_loopg [7, 8, 9, 10] (1 + N1) (fun gm s7 s8 s9 s10 W => ∃ (k : Nat) (al aA : Option Addr) (cl cA : Nat), k ≤ 1 + N1 ∧ gm = 1 + N1 - k ∧ s7 = .slice al k cl ∧ s8 = .slice aA k cA ∧ s9 = .int .i64 (wn ag k) ∧ s10 = .int .i64 k ∧ Hid (Sep W [vec 29 2 (.slice al k cl) k ((rg (1 + N1) k).flatMap Ed.cells), vec 43 2 (.slice aA k cA) k ((kn ag k).flatMap Ag.cells), old w]))
    case atStart => exact ⟨0, none, none, 0, 0, Nat.zero_le _, rfl, rfl, rfl, rfl, rfl, hV⟩
    case round =>
      clear hV
      obtain ⟨k, al, aA, cl, cA, hk, hgm, rfl, rfl, rfl, rfl, hV⟩ := hrel
      by_cases hlt : k < 1 + N1
      · have i1 : (k : Int) < 1 + (N1 : Int) := by omega
        have hmod := Lib.hid (show ((k : Int) + 1) % (1 + (N1 : Int)) = (((k + 1) % (1 + N1) : Nat) : Int) from rfl)
        have hwl := wn_le ag k
        have hrg := Lib.hid (rg_succ (1 + N1) k)
        have hkn := Lib.hid (kn_succ ag k)
        have hka := Lib.hid (kn_at ag (k + 1) (wn ag k) (by omega))
        have hws := Lib.hid (show wn ag (k + 1) = if ag (wn ag k) ≤ ag k then k else wn ag k from rfl)
        have hwl2 : wn ag k < k + 1 := by omega
        have hknl := Lib.hid (kn_len ag (k + 1))
        by_cases hl2 : k < len
        · obtain ⟨b, off, rfl, hb, zz⟩ := hz'.out (by omega)
          have z1 := (zz k hl2).1
          have hagk := hag.out k
          rw [if_pos hl2] at hagk
          rw [← hagk] at z1
          have i2 : (k : Int) < (len : Int) := by omega
          have i3 : (0 : Int) ≤ (k : Int) := by omega
          clear zz hagk
          generalize ag (wn ag k) = bv at hka hws
          generalize ag k = av at z1 hkn hws
          have hkk := Lib.hid (show (kn ag k).flatMap Ag.cells ++ [.int .i64 k, .int .i64 av] = (kn ag (k + 1)).flatMap Ag.cells by rw [hkn.out, List.flatMap_append]; rfl)
          by_cases hge : bv ≤ av
          · go_wp2_with (at_builtin; first | (refine wpList_append_sep (hV.out.allocG _) rfl _ _ 22 rfl i0 _ 16 Try.underlying22 hi0 hz0 hz1 hz2 rfl (by decide) rfl 1 [.int .i64 k, .int .i64 (((k : Int) + 1) % (1 + (N1 : Int)))] (srcA_cells _ _ _ _ 2 rfl) (h1c.out _ _) (by simp only [maxLen]; omega) (by omega) ?_; intro al' cl' w4 q2; have z2 := (q2.tail.tail.gold.cell (p := ⟨b, off + k, none⟩) hb).trans z1; replace q2 := Lib.hid q2) | (refine wpList_append_sep (q2.out.to1.allocG _) rfl _ _ 23 rfl j0 _ 16 Try.underlying23 hj0 hy0 hy1 hy2 rfl (by decide) rfl 1 [.int .i64 k, .int .i64 av] (srcA_cells _ _ _ _ 2 rfl) (h1c.out _ _) (by simp only [maxLen]; omega) (by omega) ?_; intro aA' cA' w5 q3; rw [hkk.out] at q3; obtain ⟨gA, rfl, _, _, zz, _⟩ := q3.vec_at ag_len hknl.out hwl2; rw [hka.out] at zz; have zv := zz 1 _ rfl; clear zz; replace q3 := Lib.hid q3))
            go_roundg (1 + N1 - (k + 1))
            case measure => omega
            case rel => exact ⟨k + 1, al', some ⟨gA, 0, none⟩, cl', cA', by omega, rfl, rfl, rfl, by rw [hws.out, if_pos hge], by go_num, Lib.hid (by rw [hrg.out, List.flatMap_append]; exact q3.out.to1)⟩
          · go_wp2_with (at_builtin; first | (refine wpList_append_sep (hV.out.allocG _) rfl _ _ 22 rfl i0 _ 16 Try.underlying22 hi0 hz0 hz1 hz2 rfl (by decide) rfl 1 [.int .i64 k, .int .i64 (((k : Int) + 1) % (1 + (N1 : Int)))] (srcA_cells _ _ _ _ 2 rfl) (h1c.out _ _) (by simp only [maxLen]; omega) (by omega) ?_; intro al' cl' w4 q2; have z2 := (q2.tail.tail.gold.cell (p := ⟨b, off + k, none⟩) hb).trans z1; replace q2 := Lib.hid q2) | (refine wpList_append_sep (q2.out.to1.allocG _) rfl _ _ 23 rfl j0 _ 16 Try.underlying23 hj0 hy0 hy1 hy2 rfl (by decide) rfl 1 [.int .i64 k, .int .i64 av] (srcA_cells _ _ _ _ 2 rfl) (h1c.out _ _) (by simp only [maxLen]; omega) (by omega) ?_; intro aA' cA' w5 q3; rw [hkk.out] at q3; obtain ⟨gA, rfl, _, _, zz, _⟩ := q3.vec_at ag_len hknl.out hwl2; rw [hka.out] at zz; have zv := zz 1 _ rfl; clear zz; replace q3 := Lib.hid q3))
            go_roundg (1 + N1 - (k + 1))
            case measure => omega
            case rel => exact ⟨k + 1, al', some ⟨gA, 0, none⟩, cl', cA', by omega, rfl, rfl, rfl, by rw [hws.out, if_neg (by omega)], by go_num, Lib.hid (by rw [hrg.out, List.flatMap_append]; exact q3.out.to1)⟩
        · have i2 : ¬ (k : Int) < (len : Int) := by omega
          have hagk := hag.out k
          rw [if_neg hl2] at hagk
          generalize ag (wn ag k) = bv at hka hws
          rw [hagk] at hkn hws
          clear hagk
          have hkk := Lib.hid (show (kn ag k).flatMap Ag.cells ++ [.int .i64 k, .int .i64 0] = (kn ag (k + 1)).flatMap Ag.cells by rw [hkn.out, List.flatMap_append]; rfl)
          by_cases hge : bv ≤ 0
          · go_wp2_with (at_builtin; first | (refine wpList_append_sep (hV.out.allocG _) rfl _ _ 22 rfl i0 _ 16 Try.underlying22 hi0 hz0 hz1 hz2 rfl (by decide) rfl 1 [.int .i64 k, .int .i64 (((k : Int) + 1) % (1 + (N1 : Int)))] (srcA_cells _ _ _ _ 2 rfl) (h1c.out _ _) (by simp only [maxLen]; omega) (by omega) ?_; intro al' cl' w4 q2; replace q2 := Lib.hid q2) | (refine wpList_append_sep (q2.out.to1.allocG _) rfl _ _ 23 rfl j0 _ 16 Try.underlying23 hj0 hy0 hy1 hy2 rfl (by decide) rfl 1 [.int .i64 k, .int .i64 0] (srcA_cells _ _ _ _ 2 rfl) (h1c.out _ _) (by simp only [maxLen]; omega) (by omega) ?_; intro aA' cA' w5 q3; rw [hkk.out] at q3; obtain ⟨gA, rfl, _, _, zz, _⟩ := q3.vec_at ag_len hknl.out hwl2; rw [hka.out] at zz; have zv := zz 1 _ rfl; clear zz; replace q3 := Lib.hid q3))
            go_roundg (1 + N1 - (k + 1))
            case measure => omega
            case rel => exact ⟨k + 1, al', some ⟨gA, 0, none⟩, cl', cA', by omega, rfl, rfl, rfl, by rw [hws.out, if_pos hge], by go_num, Lib.hid (by rw [hrg.out, List.flatMap_append]; exact q3.out.to1)⟩
          · go_wp2_with (at_builtin; first | (refine wpList_append_sep (hV.out.allocG _) rfl _ _ 22 rfl i0 _ 16 Try.underlying22 hi0 hz0 hz1 hz2 rfl (by decide) rfl 1 [.int .i64 k, .int .i64 (((k : Int) + 1) % (1 + (N1 : Int)))] (srcA_cells _ _ _ _ 2 rfl) (h1c.out _ _) (by simp only [maxLen]; omega) (by omega) ?_; intro al' cl' w4 q2; replace q2 := Lib.hid q2) | (refine wpList_append_sep (q2.out.to1.allocG _) rfl _ _ 23 rfl j0 _ 16 Try.underlying23 hj0 hy0 hy1 hy2 rfl (by decide) rfl 1 [.int .i64 k, .int .i64 0] (srcA_cells _ _ _ _ 2 rfl) (h1c.out _ _) (by simp only [maxLen]; omega) (by omega) ?_; intro aA' cA' w5 q3; rw [hkk.out] at q3; obtain ⟨gA, rfl, _, _, zz, _⟩ := q3.vec_at ag_len hknl.out hwl2; rw [hka.out] at zz; have zv := zz 1 _ rfl; clear zz; replace q3 := Lib.hid q3))
            go_roundg (1 + N1 - (k + 1))
            case measure => omega
            case rel => exact ⟨k + 1, al', some ⟨gA, 0, none⟩, cl', cA', by omega, rfl, rfl, rfl, by rw [hws.out, if_neg (by omega)], by go_num, Lib.hid (by rw [hrg.out, List.flatMap_append]; exact q3.out.to1)⟩
      · obtain rfl : k = 1 + N1 := by omega
        have HV1 := Lib.hid (victims_any (.slice al (1 + N1) cl) (.slice aA (1 + N1) cA) (rg (1 + N1) (1 + N1)) (kn ag (1 + N1)) wr (by rw [rg_len]; exact hV.out.vec_rl) (by rw [rg_len]; omega) (by rw [kn_len]; exact hV.out.to1.vec_rl) (by rw [kn_len]; omega))
        rw [vic_ring ag (1 + N1) (by omega) hN12] at HV1
        simp only [List.length_cons, List.length_nil] at HV1
        replace HV1 := Lib.hid HV1.out
        obtain ⟨t, hT⟩ := pick_nat tail (1 + (N1 : Int)) (by omega) (by omega)
        have hTl := hT.lt
        have hTr := hT.run
        clear hT
        have hrl := Lib.hid (rg_len (1 + N1) (1 + N1))
        have hkl := Lib.hid (kn_len ag (1 + N1))
        go_wp2_with fail
        refine HV1.out.mono ?_
        rintro e w3 ⟨va, vp, rfl, q⟩
        replace hV := Lib.hid (q.graft hV.out)
        clear q HV1
        go_wp2_with fail
        refine (hTr.out _).mono ?_
        rintro e w4 ⟨rfl, rfl⟩
        go_wp2_with (at_builtin; (refine wpList_append_sep (hV.out.to1.allocG _) rfl _ _ 22 rfl i0 _ 16 Try.underlying22 hi0 hz0 hz1 hz2 rfl (by decide) rfl 1 [.int .i64 100, .int .i64 t] (srcA_cells _ _ _ _ 2 rfl) (h1c.out _ _) (by simp only [maxLen]; omega) (by omega) ?_; intro al' cl' w4 q2; replace q2 := Lib.hid q2))
        have hcat := Lib.hid (show (rg (1 + N1) (1 + N1)).flatMap Ed.cells ++ [.int .i64 100, .int .i64 t] = (rg (1 + N1) (1 + N1) ++ [(⟨100, (t : Int)⟩ : Ed)]).flatMap Ed.cells by rw [List.flatMap_append]; rfl)
        rw [hcat.out] at q2
        have HV2 := Lib.hid (victims_any (.slice al' (1 + N1 + 1) cl') (.slice aA (1 + N1) cA) (rg (1 + N1) (1 + N1) ++ [(⟨100, (t : Int)⟩ : Ed)]) (kn ag (1 + N1)) w4 (by rw [List.length_append, hrl.out]; exact q2.out.vec_rl) (by rw [List.length_append, hrl.out]; simp only [List.length_cons, List.length_nil]; omega) (by rw [hkl.out]; exact q2.out.to2.vec_rl) (by rw [hkl.out]; omega))
        rw [vic_ringt ag (1 + N1) t (by omega) hN12] at HV2
        simp only [List.length_cons, List.length_nil] at HV2
        replace HV2 := Lib.hid HV2.out
        refine HV2.out.mono ?_
        rintro e w5 ⟨wa, wp, rfl, q⟩
        replace hV := Lib.hid ((q.graft q2.out).alloc #[.int .i64 (wn ag (1 + N1))] 3)
        clear q HV2 q2 hcat
        go_wp2_with fail
        refine (same_true _ _ [(wn ag (1 + N1) : Int)] _ (by simp) hV.out.to3.vec_ri (int_ri [(wn ag (1 + N1) : Int)] hV.out rfl rfl (by simp))).mono ?_
        rintro e w6 ⟨rfl, m, hw⟩
        replace hV := Lib.hid (show Sep w6 _ by rw [hw]; exact hV.out.drewN m)
        clear hw
        go_wp2_with fail
        refine (same_true _ _ [(wn ag (1 + N1) : Int)] _ (by simp) hV.out.to1.vec_ri hV.out.to3.vec_ri).mono ?_
        rintro e w7 ⟨rfl, m, hw⟩
        replace hV := Lib.hid (show Sep w7 _ by rw [hw]; exact hV.out.drewN m)
        clear hw
        go_wp2_with fail
        go_ret
        exact ⟨rfl, (hV.out.bring 5 rfl).gold⟩
  · have i20 : (20 : Int) < (len : Int) := by omega
    go_enter Try.func5, Try.ntmps5
    go_wp2_with fail
    refine (lives_any _).mono ?_
    rintro e w1 ⟨rfl, q⟩
    have hb := Lib.hid q
    clear q
    go_wp2_with fail
    go_ret
    exact ⟨rfl, hb.out⟩
end Go.Proofs.Ythbamhfnemdebaa
