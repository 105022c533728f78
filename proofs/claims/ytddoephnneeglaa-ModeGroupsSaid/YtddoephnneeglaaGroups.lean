/-
  The walk of ModeGroups. No condition beside arguments that can be read.
-/
import Derived.Test.YtddoephnneeglaaGroupL
import Derived.Test.YtddoephnneeglaaOpen
import Derived.Test.YtddoephnneeglaaSep
namespace Go.Proofs.Ytddoephnneeglaa
open Go.RowKit
set_option maxHeartbeats 4000000 in
set_option maxRecDepth 100000 in
theorem groups_walk (a : Option Addr) (len cap : Nat) (z : List Int) (a1 a2 : Int) (w : World) (h : IsInts .i64 w a len cap z) (_h1 : (Lit.int .i64 a1).wf = true) (_h2 : (Lit.int .i64 a2).wf = true) :
    Calls Try.prog 5 #[.slice a len cap, .int .i64 a1, .int .i64 a2] w fun e w' => e = .returned (.bool true) ∧ Below w.heap.size w w' := by
  by_cases h60 : 20 < len
  · go_enter Try.func5, Try.ntmps5
    go_wp2_with (go_at_call 8; refine (lives_any _).mono ?_; rintro e w1 ⟨rfl, b1⟩)
    go_ret
    exact ⟨rfl, b1⟩
  · have hzl := Lib.hid h.1
    have H := Lib.hid h
    obtain ⟨i0, hi, hz0, hz1', hz2⟩ := info_parts info_mode
    obtain ⟨m, PM⟩ := pick_nat a2 7 (by omega) (by omega)
    have hm7 := PM.lt
    obtain ⟨r, hr⟩ : ∃ r : Nat, Hid (0 < len → (r : Int) = a1 % len) := by
      by_cases h0 : 0 < len
      · obtain ⟨r, hr⟩ := Int.eq_ofNat_of_zero_le (Int.emod_nonneg a1 (show (len : Int) ≠ 0 by omega))
        exact ⟨r, fun _ => hr.symm⟩
      · exact ⟨0, fun h => absurd h h0⟩
    clear h
    go_enter Try.func5, Try.ntmps5
    go_wp2_with fail
    refine (lives_any _).mono ?_
    rintro e w1 ⟨rfl, b1⟩
    have hS := Lib.hid ((((Sep.start w).below b1).vec_nil 23 1).vec_nil 23 1)
    clear b1
    go_wp2_with fail
    go_loopw [7, 8, 10] (fun s7 s8 i wr => ∃ (k : Nat) (av bv : Value), av = s7 ∧ bv = s8 ∧ k ≤ len ∧ i = .int .i64 k ∧ Hid (Sep wr [vec 23 1 av k ((aL z k).map (Value.int .i64)), vec 23 1 bv k ((bL z r k).map (Value.int .i64)), old w])) (fun _ _ i _ => len - (intOf i).toNat)
    case atStart => exact ⟨0, _, _, rfl, rfl, by omega, rfl, hS.out⟩
    case round =>
      clear hS
      obtain ⟨k, av, bv, rfl, rfl, hk, rfl, hS⟩ := hrel
      by_cases hlt : k < len
      · obtain ⟨hz1, hlc, hcm, bb, off, rfl, hbs, hz⟩ : z.length = len ∧ len ≤ cap ∧ cap ≤ maxLen ∧ ∃ b off, a = some ⟨b, off, none⟩ ∧ b < w.heap.size ∧ ∀ i, i < len → w.cell? ⟨b, off + i, none⟩ = some (.int .i64 (z.getD i 0)) ∧ (Lit.int .i64 (z.getD i 0)).wf = true := ⟨H.out.1, H.out.2.1, H.out.2.2.1, H.out.2.2.2 (by omega)⟩
        replace hz1 := Lib.hid hz1
        obtain ⟨r', PR⟩ := pick_nat a1 len (by omega) (by omega)
        obtain rfl : r' = r := by have h1 := PR.eq.out; have h2 := hr.out (by omega); omega
        have hrl := PR.lt
        have c1 := (hz k hlt).1
        have hj : (k + r') % len < len := Nat.mod_lt _ (by omega)
        have c2 := Lib.hid (hz ((k + r') % len) hj).1
        rw [← hS.out.to2.gold.cell (by exact hbs)] at c1
        have e1 := Lib.hid (aL_snoc z k)
        have e2 := Lib.hid (bL_snoc z r' k)
        have m1 := Lib.hid (show mz z k = z.getD k 0 % 7 from rfl)
        have m2 := Lib.hid (show mz z ((k + r') % z.length) = z.getD ((k + r') % len) 0 % 7 by rw [hz1.out]; rfl)
        clear hz H
        generalize z.getD k 0 = x at *
        generalize hjj : (k + r') % len = jj at *
        generalize z.getD jj 0 = y at *
        replace hjj := Lib.hid hjj
        obtain ⟨x7, PX⟩ := pick_nat x 7 (by omega) (by omega)
        obtain ⟨y7, PY⟩ := pick_nat y 7 (by omega) (by omega)
        have ex := Lib.hid (show mz z k = x7 by rw [m1.out, PX.eq.out])
        have ey := Lib.hid (show mz z ((k + r') % z.length) = y7 by rw [m2.out, PY.eq.out])
        clear m1 m2
        go_wp2_with fail
        refine (PX.run.out _).mono ?_
        rintro e w5 ⟨rfl, rfl⟩
        go_wp2_with (at_builtin; refine wpList_append_sep (hS.out.allocG _) rfl _ _ 30 rfl i0 (.int .i64 0) 8 Try.underlying30 hi hz0 hz1' hz2 rfl (by decide) rfl 1 [.int .i64 x7] (SrcA.one _ _ _ _) ?c2 ?c3 ?c4 ?_)
        case c2 => simp [Value.oneCell']
        case c3 => simp only [maxLen]; omega
        case c4 => omega
        intro aa ca w6 hS6
        replace hS6 := Lib.hid hS6
        replace c2 := (hS6.out.to2.gold.cell (p := ⟨bb, off + jj, none⟩) hbs).trans c2.out
        have hjl : jj < len := hj
        have hwr : (((k : Int) + (r' : Int)) % (len : Int)) = (jj : Int) := by rw [← hjj.out]; rfl
        clear hS c1
        go_wp2_with fail
        refine (PR.run.out _).mono ?_
        rintro e w7 ⟨rfl, rfl⟩
        go_wp2_with fail
        refine (PY.run.out _).mono ?_
        rintro e w8 ⟨rfl, rfl⟩
        go_wp2_with (at_builtin; refine wpList_append_sep (hS6.out.to1.allocG _) rfl _ _ 30 rfl i0 (.int .i64 0) 8 Try.underlying30 hi hz0 hz1' hz2 rfl (by decide) rfl 1 [.int .i64 y7] (SrcA.one _ _ _ _) ?c2 ?c3 ?c4 ?_)
        case c2 => simp [Value.oneCell']
        case c3 => simp only [maxLen]; omega
        case c4 => omega
        intro ab cb w9 hS9
        replace hS9 := Lib.hid hS9.to1
        clear hS6 c2
        go_wp2_with fail
        go_roundw
        case rel => exact ⟨k + 1, _, _, rfl, rfl, by omega, by go_num, Lib.hid (by rw [e1.out, e2.out, ex.out, ey.out]; simpa using hS9.out)⟩
        case measure => simp [intOf]; omega
      · obtain rfl : k = len := by omega
        have hG := Lib.hid (group_any _ (aL z k) wr (by rw [aL_len]; omega) hS.out.vec_ri)
        go_wp2_with fail
        refine hG.out.mono ?_
        rintro e w2 ⟨rfl, b2⟩
        replace hS := Lib.hid (hS.out.below b2)
        clear hG b2
        go_wp2_with fail
        refine (PM.run.out _).mono ?_
        rintro e w5 ⟨rfl, rfl⟩
        go_wp2_with fail
        have hmm : Md (m : Int) := md_mk (by omega) (by omega)
        replace hS := Lib.hid hS.out
        replace hmm := Lib.hid hmm
        go_loopw [13, 14] (fun al i wr => ∃ j : Nat, j ≤ k ∧ i = .int .i64 j ∧ al = .bool (allB m z j) ∧ Hid (Sep wr [vec 23 1 av k ((aL z k).map (Value.int .i64)), vec 23 1 bv k ((bL z r k).map (Value.int .i64)), old w])) (fun _ i _ => k - (intOf i).toNat)
        case atStart => exact ⟨0, by omega, rfl, rfl, hS⟩
        case round =>
          clear hS
          obtain ⟨j, hj, rfl, rfl, hS⟩ := hrel
          by_cases hjk : j < k
          · obtain ⟨a', c', hv, hr'⟩ := hS.out.vec_ri
            obtain ⟨b', off', ha', hb', hc'⟩ := hr' (by rw [aL_len]; omega)
            have c1 := hc' j (by rw [aL_len]; exact hjk)
            rw [aL_at z k j hjk] at c1
            rw [aL_len] at hv
            subst ha' hv
            have g1 := group_mem z k j hjk
            have E := Lib.hid (allB_snoc m z j)
            clear hr' hc'
            replace hmm := Lib.hid hmm
            generalize mz z j = x at *
            generalize groupV (aL z k) = G at *
            cases hal : allB m z j with
            | true =>
              go_wp2_with fail
              refine (covers_any _ _ _).mono ?_
              rintro e w3 ⟨rfl, b3⟩
              have c1' := (b3.cell (p := ⟨b', off' + j, none⟩) hb').trans c1
              replace hS := Lib.hid (hS.out.below b3)
              clear b3 c1
              go_wp2_with fail
              refine (covers_any _ _ _).mono ?_
              rintro e w4 ⟨rfl, b4⟩
              replace hS := Lib.hid (hS.out.below b4)
              clear b4 c1'
              go_wp2_with fail
              go_roundw
              case rel => exact ⟨j + 1, by omega, by go_num, by rw [E.out, hal]; rfl, hS⟩
              case measure => simp [intOf]; omega
            | false =>
              go_wp2_with fail
              refine (covers_any _ _ _).mono ?_
              rintro e w4 ⟨rfl, b4⟩
              replace hS := Lib.hid (hS.out.below b4)
              clear b4 c1
              go_wp2_with fail
              go_roundw
              case rel => exact ⟨j + 1, by omega, by go_num, by rw [E.out, hal]; rfl, hS⟩
              case measure => simp [intOf]; omega
          · obtain rfl : j = k := by omega
            have hlz : Hid (0 < z.length → r < z.length) := by
              intro h0
              have h1 := hr.out (by have := hzl.out; omega)
              have h2 := Int.emod_lt_of_pos a1 (show (0 : Int) < (j : Int) by have := hzl.out; omega)
              have h3 := hzl.out
              omega
            have hT := Lib.hid (group_turn z r hlz.out)
            have hW := Lib.hid (group_twice z r hlz.out)
            have hC := Lib.hid (group_cov z m j hmm)
            have hzl' := Lib.hid (show z.length = j from hzl.out)
            rw [hzl'.out] at hT hW
            have hB := Lib.hid (group_any _ (bL z r j) wr (by rw [bL_len]; omega) hS.out.to1.vec_ri)
            rw [hT.out] at hB
            go_wp2_with fail
            refine hB.out.mono ?_
            rintro e w3 ⟨rfl, b3⟩
            replace hS := Lib.hid (hS.out.below b3)
            clear hB b3
            go_wp2_with (at_builtin; refine wpList_append_sep hS.out.to1 rfl _ _ 30 rfl i0 (.int .i64 0) 8 Try.underlying30 hi hz0 hz1' hz2 rfl (by decide) rfl j ((aL z j).map (Value.int .i64)) (SrcA.own hS.out.gvec) ?c2 ?c3 ?c4 ?_)
            case c2 => simp [Value.oneCell']
            case c3 => simp only [maxLen]; omega
            case c4 => omega
            intro ab cb w4 hS4
            rw [← List.map_append] at hS4
            have hB := Lib.hid (group_any _ (bL z r j ++ aL z j) w4 (by rw [List.length_append, bL_len, aL_len]; omega) hS4.vec_ri)
            rw [hW.out] at hB
            replace hS4 := Lib.hid hS4
            clear hS
            go_wp2_with fail
            refine hB.out.mono ?_
            rintro e w5 ⟨rfl, b5⟩
            replace hS4 := Lib.hid (hS4.out.below b5)
            clear hB b5
            go_wp2_with fail
            refine (covers_any _ _ _).mono ?_
            rintro e w6 ⟨rfl, b6⟩
            rw [hC.out]
            replace hS4 := Lib.hid (hS4.out.below b6)
            clear b6
            generalize allB m z j = al at *
            go_wp2_with (at_builtin; refine wpList_append_sep (hS4.out.to1.allocG _) rfl _ _ 30 rfl i0 (.int .i64 0) 8 Try.underlying30 hi hz0 hz1' hz2 rfl (by decide) rfl 1 [.int .i64 m] (SrcA.one _ _ _ _) ?c2 ?c3 ?c4 ?_)
            case c2 => simp [Value.oneCell']
            case c3 => simp only [maxLen]; omega
            case c4 => omega
            intro aa ca w7 hS7
            have hB := Lib.hid (group_any _ (aL z j ++ [(m : Int)]) w7 (by rw [List.length_append, aL_len]; simp; omega) (by have h := hS7; rw [show [Value.int .i64 (m : Int)] = [(m : Int)].map (Value.int .i64) from rfl, ← List.map_append] at h; exact h.vec_ri))
            rw [groupV_snoc] at hB
            replace hS7 := Lib.hid hS7
            clear hS4
            go_wp2_with fail
            refine hB.out.mono ?_
            rintro e w8 ⟨rfl, b8⟩
            replace hS7 := Lib.hid (hS7.out.below b8)
            clear hB b8
            go_wp2_with fail
            refine (sup_any _ _ _).mono ?_
            rintro e w9 ⟨rfl, b9⟩
            replace hS7 := Lib.hid (hS7.out.below b9)
            clear b9
            go_wp2_with fail
            go_ret
            exact ⟨rfl, hS7.out.to2.gold⟩
end Go.Proofs.Ytddoephnneeglaa
