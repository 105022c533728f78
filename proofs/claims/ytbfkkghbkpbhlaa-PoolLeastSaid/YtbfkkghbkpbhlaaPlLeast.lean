/-
  The walk of PoolLeast. No condition beside an argument that can be read.
-/
import Derived.Test.YtbfkkghbkpbhlaaPlLives
import Derived.Test.YtbfkkghbkpbhlaaPick
import Derived.Test.YtbfkkghbkpbhlaaOpen
namespace Go.Proofs.Ytbfkkghbkpbhlaa
open Go.RowKit
theorem count_le (l : List Bool) : l.count true ≤ l.length := List.count_le_length
theorem count_full {l : List Bool} (h : l.count true = l.length) (k : Nat) (hk : k < l.length) : l.getD k false = true := by
  cases hb : l.getD k false with
  | true => rfl
  | false =>
    have h1 := count_up l k hk hb
    have h2 := count_le (l.set k true)
    rw [List.length_set] at h2
    omega
/-- All below k are lent: so many are lent at least. -/
theorem count_ge : ∀ (l : List Bool) (k : Nat), k ≤ l.length → (∀ j, j < k → l.getD j false = true) → k ≤ l.count true
  | _, 0, _, _ => Nat.zero_le _
  | [], k + 1, h, _ => absurd h (by simp)
  | b :: l, k + 1, h, h2 => by
    have hb : b = true := by simpa using h2 0 (by omega)
    have ih := count_ge l k (by simpa using h) (fun j hj => by simpa using h2 (j + 1) (by omega))
    subst hb
    rw [List.count_cons]
    simp
    exact ih
set_option maxHeartbeats 4000000 in
set_option maxRecDepth 100000 in
theorem least_walk (most : Int) (a : Option Addr) (len cap : Nat) (z : List Int) (w : World) (hz : IsInts .i64 w a len cap z) : Calls Try.prog 3 #[.int .i64 most, .slice a len cap] w fun e w' => e = .returned (.bool true) ∧ Below w.heap.size w w' := by
  by_cases h80 : len ≤ 80
  · have i80 : (len : Int) ≤ 80 := by omega
    obtain ⟨m, PM⟩ := pick_nat most 40 (by omega) (by omega)
    have hm := PM.lt
    have HP := PM.run
    obtain ⟨i0, hi, hz0, hz1, hz2⟩ := info_parts info_bool
    have hmk := fun W => run_make_rowN (P := Try.prog) 29 4 i0 _ Try.underlying29 hi hz0 .i64 .i64 m m (Nat.le_refl _) (by rw [hz2]; omega) (by omega) W
    rw [hz1] at hmk
    clear hi hz0 hz1 hz2 PM
    have hz' := Lib.hid hz.2.2.2
    clear hz
    go_enter Try.func3, Try.ntmps3
    go_wp2_with fail
    refine (lives_any _).mono ?_
    rintro e w1 ⟨rfl, q⟩
    have hB := Lib.hid ((Sep.start w).below q)
    clear q
    go_wp2_with fail
    refine (HP.out _).mono ?_
    rintro e w2 ⟨rfl, rfl⟩
    go_wp2_with fail
    refine (new_any m (by omega) _).mono ?_
    rintro e w3 ⟨p, rfl, q⟩
    have hS0 := Lib.hid ((q.graft hB.out).vb_new m (by omega))
    clear q hB HP
    obtain ⟨g, hg⟩ : ∃ g, w3.heap.size = g := ⟨_, rfl⟩
    rw [hg] at hS0
    go_wp2_with fail
    try rw [hg]
    clear hg hmk
    replace hS0 := Lib.hid hS0.out.to1
    go_loopw [8, 9, 10] (fun s8 s9 s10 wr => ∃ (k pk : Nat) (lent : List Bool), k ≤ len ∧ s8 = .int .i64 (lent.count true : Nat) ∧ s9 = .int .i64 pk ∧ s10 = .int .i64 k ∧ Hid (lent.length = m) ∧ pk ≤ 40 ∧ Hid (Sep wr [poolR p lent, bVec (.slice (some ⟨g, 0, none⟩) m m) m lent, old w])) (fun _ _ s _ => len - (intOf s).toNat)
    case atStart =>
      refine ⟨0, 0, List.replicate m false, Nat.zero_le _, ?_, rfl, rfl, List.length_replicate, by omega, hS0⟩
      have : (List.replicate m false).count true = 0 := List.count_eq_zero.2 (fun hm => by simpa using List.eq_of_mem_replicate hm)
      rw [this]
      rfl
    case round =>
      clear hS0
      obtain ⟨k, pk, lent, hk, rfl, rfl, rfl, hl, hpk, hS⟩ := hrel
      by_cases hlt : k < len
      · obtain ⟨b, off, rfl, hbl, hc⟩ := hz'.out (by omega)
        have x0 := (hc k hlt).1
        generalize z.getD k 0 = v at *
        have c0 := (hS.out.tail.tail.gold.cell (p := ⟨b, off + k, none⟩) hbl).trans x0
        have i1 : (0 : Int) ≤ (k : Int) := by omega
        have i2 : (k : Int) < (len : Int) := by omega
        have hcl := count_le lent
        rw [hl.out] at hcl
        have hc2 := Lib.hid x0
        clear x0 hc
        by_cases hv : v < 0
        · by_cases hfull : lent.count true = m
          · have HT := Lib.hid (take_full p lent wr _ hS.out (by rw [hl.out]; exact hfull))
            generalize hq : lent.count true = q at *
            replace hq := Lib.hid hq
            have e1 : ((q : Nat) : Int) = (m : Int) := by omega
            have e2 : (((q : Nat) : Int) == (m : Int)) = true := beq_iff_eq.2 e1
            go_wp2_with fail
            refine HT.out.mono ?_
            rintro e w4 ⟨rfl, rfl⟩
            go_wp2_with fail
            go_roundw
            case rel => exact ⟨k + 1, pk, lent, by omega, by rw [hq.out]; exact congrArg (Value.int .i64) e1.symm, rfl, by go_num, hl, hpk, hS⟩
            case measure => simp [intOf]; omega
          · have HT := Lib.hid (take_some p lent wr _ hS.out (by rw [hl.out]; omega) (by rw [hl.out]; omega))
            have e1 : ¬ ((lent.count true : Nat) : Int) = (m : Int) := by omega
            have e2 : (((lent.count true : Nat) : Int) == (m : Int)) = false := beq_eq_false_iff_ne.2 e1
            clear hS
            go_wp2_with fail
            refine HT.out.mono ?_
            rintro e w4 ⟨t, rfl, ht, hb, hall, hS⟩
            have hge := count_ge lent t (by omega) hall
            have hup := count_up lent t ht hb
            rw [hl.out] at ht
            obtain ⟨y0, y1, _⟩ := hS.to1.vec_cell (bools_at lent t (by rw [hl.out]; exact ht))
            rw [hb] at y0
            replace hS := Lib.hid hS
            replace hall := Lib.hid hall
            replace hup := Lib.hid hup
            clear hb HT
            generalize hq : lent.count true = q at *
            replace hq := Lib.hid hq
            have i3 : (0 : Int) ≤ (t : Int) := by omega
            have i4 : (t : Int) < (m : Int) := by omega
            by_cases hpq : q + 1 ≤ pk
            · have i7 : (q : Int) + 1 ≤ (pk : Int) := by omega
              go_wp2_with fail
              go_loop [13] (fun s => ∃ j : Nat, j ≤ t ∧ s = .int .i64 j) (fun s => t - (intOf s).toNat)
              case atStart => exact ⟨0, Nat.zero_le _, rfl⟩
              case round =>
                obtain ⟨j, hj, rfl⟩ := hrel
                by_cases hjt : j < t
                · obtain ⟨z0, z1, _⟩ := hS.out.to1.vec_cell (bools_at lent j (by rw [hl.out]; omega))
                  rw [hall.out j hjt] at z0
                  have i5 : (0 : Int) ≤ (j : Int) := by omega
                  have i6 : (j : Int) < (m : Int) := by omega
                  go_wp2_with fail
                  go_round
                  case rel => exact ⟨j + 1, by omega, by go_num⟩
                  case measure => simp [intOf]; omega
                · have h3 := hS.out.to1.vec_set (k := t) (by simp [bools, hl.out]; omega) (.bool true)
                  rw [bools_set] at h3
                  replace h3 := Lib.hid h3.to1
                  have hl2 := Lib.hid (show (lent.set t true).length = m by rw [List.length_set]; exact hl.out)
                  go_wp2_with fail
                  go_roundw
                  case rel => exact ⟨k + 1, pk, lent.set t true, by omega, by rw [hup.out]; rfl, rfl, by go_num, hl2, by omega, h3⟩
                  case measure => simp [intOf]; omega
            · have i7 : (pk : Int) < (q : Int) + 1 := by omega
              go_wp2_with fail
              go_loop [13] (fun s => ∃ j : Nat, j ≤ t ∧ s = .int .i64 j) (fun s => t - (intOf s).toNat)
              case atStart => exact ⟨0, Nat.zero_le _, rfl⟩
              case round =>
                obtain ⟨j, hj, rfl⟩ := hrel
                by_cases hjt : j < t
                · obtain ⟨z0, z1, _⟩ := hS.out.to1.vec_cell (bools_at lent j (by rw [hl.out]; omega))
                  rw [hall.out j hjt] at z0
                  have i5 : (0 : Int) ≤ (j : Int) := by omega
                  have i6 : (j : Int) < (m : Int) := by omega
                  go_wp2_with fail
                  go_round
                  case rel => exact ⟨j + 1, by omega, by go_num⟩
                  case measure => simp [intOf]; omega
                · have h3 := hS.out.to1.vec_set (k := t) (by simp [bools, hl.out]; omega) (.bool true)
                  rw [bools_set] at h3
                  replace h3 := Lib.hid h3.to1
                  have hl2 := Lib.hid (show (lent.set t true).length = m by rw [List.length_set]; exact hl.out)
                  go_wp2_with fail
                  go_roundw
                  case rel => exact ⟨k + 1, q + 1, lent.set t true, by omega, by rw [hup.out]; rfl, rfl, by go_num, hl2, by omega, h3⟩
                  case measure => simp [intOf]; omega
        · obtain ⟨u, rfl⟩ := Int.eq_ofNat_of_zero_le (show 0 ≤ v by omega)
          by_cases hu : u < m
          · cases hb : lent.getD u false with
            | true =>
              have HG := Lib.hid (give_yes p lent u wr _ hS.out (by rw [hl.out]; exact hu) hb (by rw [hl.out]; omega))
              have hdn := count_dn lent u (by rw [hl.out]; exact hu) hb
              have i3 : (0 : Int) ≤ (u : Int) := by omega
              have i4 : (u : Int) < (m : Int) := by omega
              clear hS
              go_wp2_with fail
              refine HG.out.mono ?_
              rintro e w4 ⟨rfl, hS⟩
              obtain ⟨y0, y1, _⟩ := hS.to1.vec_cell (bools_at lent u (by rw [hl.out]; exact hu))
              rw [hb] at y0
              have c1 := (hS.tail.tail.gold.cell (p := ⟨b, off + k, none⟩) hbl).trans (hc2.out)
              have h3 := hS.to1.vec_set (k := u) (by simp [bools, hl.out]; omega) (.bool false)
              rw [bools_set] at h3
              replace h3 := Lib.hid h3.to1
              have hl2 := Lib.hid (show (lent.set u false).length = m by rw [List.length_set]; exact hl.out)
              clear hS c0 HG hb
              go_wp2_with fail
              go_roundw
              case rel => exact ⟨k + 1, pk, lent.set u false, by omega, by go_num, rfl, by go_num, hl2, hpk, h3⟩
              case measure => simp [intOf]; omega
            | false =>
              have HG := Lib.hid (give_no p lent u wr _ hS.out (by rw [Int.toNat_natCast, hb, Bool.and_false, Bool.and_false]))
              have i3 : (0 : Int) ≤ (u : Int) := by omega
              have i4 : (u : Int) < (m : Int) := by omega
              obtain ⟨y0, y1, _⟩ := hS.out.to1.vec_cell (bools_at lent u (by rw [hl.out]; exact hu))
              rw [hb] at y0
              clear hb
              generalize hq : lent.count true = q at *
              replace hq := Lib.hid hq
              go_wp2_with fail
              refine HG.out.mono ?_
              rintro e w4 ⟨rfl, rfl⟩
              go_wp2_with fail
              go_roundw
              case rel => exact ⟨k + 1, pk, lent, by omega, by rw [hq.out], rfl, by go_num, hl, hpk, hS⟩
              case measure => simp [intOf]; omega
          · have HG := Lib.hid (give_no p lent u wr _ hS.out (by rw [hl.out, decide_eq_false (show ¬ (u : Int) < (m : Int) by omega), Bool.false_and, Bool.and_false]))
            have i4 : (m : Int) ≤ (u : Int) := by omega
            generalize hq : lent.count true = q at *
            replace hq := Lib.hid hq
            go_wp2_with fail
            refine HG.out.mono ?_
            rintro e w4 ⟨rfl, rfl⟩
            go_wp2_with fail
            go_roundw
            case rel => exact ⟨k + 1, pk, lent, by omega, by rw [hq.out], rfl, by go_num, hl, hpk, hS⟩
            case measure => simp [intOf]; omega
      · have HLv := Lib.hid (live_any p lent wr _ hS.out (by rw [hl.out]; omega))
        generalize hq : lent.count true = q at *
        replace hq := Lib.hid hq
        go_wp2_with fail
        refine HLv.out.mono ?_
        rintro e w4 ⟨rfl, mm, rfl⟩
        go_wp2_with fail
        go_ret
        exact ⟨rfl, (hS.out.drewN mm).tail.tail.gold⟩
  · have i80 : ¬ (len : Int) ≤ 80 := by omega
    go_enter Try.func3, Try.ntmps3
    go_wp2_with fail
    refine (lives_any _).mono ?_
    rintro e w1 ⟨rfl, q⟩
    have hB := Lib.hid ((Sep.start w).below q)
    clear q
    go_wp2_with fail
    go_ret
    exact ⟨rfl, hB.out.gold⟩
end Go.Proofs.Ytbfkkghbkpbhlaa
