/-
  The walk of PoolAll. No condition.
-/
import Derived.Test.YtbfkkghbkpbhlaaPlBack
namespace Go.Proofs.Ytbfkkghbkpbhlaa
open Go.RowKit
/-- The first i of m are lent. -/
def upTo (m i : Nat) : List Bool := (List.range m).map fun j => decide (j < i)
/-- i of m are given back, from s on, in a ring. -/
def ring (m s i : Nat) : List Bool := (List.range m).map fun j => !decide ((if s ≤ j then j - s else j + m - s) < i)
def pos (m s i : Nat) : Nat := if i + s < m then i + s else i + s - m
theorem getD_range (m : Nat) (f : Nat → Bool) (j : Nat) (hj : j < m) : ((List.range m).map f).getD j false = f j := by
  rw [List.getD_eq_getElem?_getD, List.getElem?_map, List.getElem?_range hj]
  rfl
theorem upTo_len (m i : Nat) : (upTo m i).length = m := by unfold upTo; rw [List.length_map, List.length_range]
theorem ring_len (m s i : Nat) : (ring m s i).length = m := by unfold ring; rw [List.length_map, List.length_range]
theorem upTo_get {m i j : Nat} (hj : j < m) : (upTo m i).getD j false = decide (j < i) := getD_range m _ j hj
theorem ring_get {m s i j : Nat} (hj : j < m) : (ring m s i).getD j false = !decide ((if s ≤ j then j - s else j + m - s) < i) := getD_range m _ j hj
theorem rep_get (m j : Nat) : (List.replicate m false).getD j false = false := by
  rw [List.getD_eq_getElem?_getD]
  by_cases h : j < m
  · rw [List.getElem?_replicate, if_pos h]; rfl
  · rw [List.getElem?_replicate, if_neg h]; rfl
theorem upTo_zero (m : Nat) : List.replicate m false = upTo m 0 :=
  lists_eq (by rw [upTo_len, List.length_replicate]) fun j hj => by
    rw [List.length_replicate] at hj
    rw [upTo_get hj, rep_get]
    rfl
theorem upTo_set {m i : Nat} (hi : i < m) : (upTo m i).set i true = upTo m (i + 1) :=
  lists_eq (by rw [List.length_set, upTo_len, upTo_len]) fun j hj => by
    rw [List.length_set, upTo_len] at hj
    rw [getD_set _ _ _ _ (by rw [upTo_len]; exact hi), upTo_get hj, upTo_get hj]
    split
    · rename_i e; subst e; exact (decide_eq_true (by omega)).symm
    · rename_i e; rw [decide_eq_decide]; omega
theorem ring_zero (m s : Nat) : upTo m m = ring m s 0 :=
  lists_eq (by rw [upTo_len, ring_len]) fun j hj => by
    rw [upTo_len] at hj
    rw [upTo_get hj, ring_get hj, decide_eq_true hj, decide_eq_false (by omega)]
    rfl
theorem ring_end {m s : Nat} (hs : 0 < m → s < m) : ring m s m = List.replicate m false :=
  lists_eq (by rw [List.length_replicate, ring_len]) fun j hj => by
    rw [ring_len] at hj
    have := hs (by omega)
    rw [ring_get hj, rep_get, decide_eq_true (by split <;> omega)]
    rfl
theorem pos_lt {m s i : Nat} (hs : s < m) (hi : i < m) : pos m s i < m := by unfold pos; split <;> omega
theorem ring_pos {m s i : Nat} (hs : s < m) (hi : i < m) : (ring m s i).getD (pos m s i) false = true := by
  rw [ring_get (pos_lt hs hi), decide_eq_false (by unfold pos; split <;> split <;> omega)]
  rfl
theorem ring_set {m s i : Nat} (hs : s < m) (hi : i < m) : (ring m s i).set (pos m s i) false = ring m s (i + 1) :=
  lists_eq (by rw [List.length_set, ring_len, ring_len]) fun j hj => by
    rw [List.length_set, ring_len] at hj
    rw [getD_set _ _ _ _ (by rw [ring_len]; exact pos_lt hs hi), ring_get hj, ring_get hj]
    split
    · rename_i e
      subst e
      rw [decide_eq_true (by unfold pos; split <;> split <;> omega)]
      rfl
    · rename_i e
      congr 1
      rw [decide_eq_decide]
      have : ¬ (if s ≤ j then j - s else j + m - s) = i := by
        intro h
        apply e
        unfold pos
        split at h <;> split <;> omega
      omega
theorem pos_mod {m s i : Nat} (hs : s < m) (hi : i < m) : ((i : Int) + (s : Int)).tmod (m : Int) = (pos m s i : Int) := by
  rw [Int.tmod_eq_emod_of_nonneg (by omega)]
  unfold pos
  split
  · rw [Int.emod_eq_of_lt (by omega) (by omega)]
    omega
  · rw [← Int.sub_emod_right, Int.emod_eq_of_lt (by omega) (by omega)]
    omega
theorem upTo_count {m i : Nat} (hi : i < m) : (upTo m i).count true < (upTo m i).length := by
  refine Nat.lt_of_le_of_ne List.count_le_length fun h => ?_
  have := List.count_eq_length.1 h (decide (i < i)) (by
    unfold upTo
    exact List.mem_map.2 ⟨i, List.mem_range.2 hi, rfl⟩)
  simp at this
theorem upTo_full (m : Nat) : (upTo m m).count true = (upTo m m).length :=
  List.count_eq_length.2 fun b hb => by
    unfold upTo at hb
    obtain ⟨j, hj, rfl⟩ := List.mem_map.1 hb
    exact (decide_eq_true (List.mem_range.1 hj)).symm
theorem rep_count (m : Nat) : (List.replicate m false).count true = 0 := by
  rw [List.count_replicate]; rfl
theorem lentU_full (m : Nat) : lentU (upTo m m) (upTo m m).length = (List.range m).map (fun (j : Nat) => (j : Int)) := by
  rw [upTo_len]
  unfold lentU
  congr 1
  refine List.filter_eq_self.2 fun j hj => ?_
  have := List.mem_range.1 hj
  rw [upTo_get this]
  exact decide_eq_true this
set_option maxHeartbeats 4000000 in
set_option maxRecDepth 100000 in
theorem all_walk (most turn : Int) (w : World) : Calls Try.prog 6 #[.int .i64 most, .int .i64 turn] w fun e w' => e = .returned (.bool true) ∧ Below w.heap.size w w' := by
  obtain ⟨m, PM⟩ := pick_nat most 129 (by omega) (by omega)
  have hm := PM.lt
  have HP := PM.run
  clear PM
  have hm1 : m ≤ 128 := by omega
  have hm2 : (m : Int) ≤ 128 := by omega
  clear hm
  obtain ⟨sh, HSH⟩ : ∃ sh : Nat, 0 < m → Picks turn m sh := by
    by_cases h : 0 < m
    · obtain ⟨s, hs⟩ := pick_nat turn m (by omega) (by omega)
      exact ⟨s, fun _ => hs⟩
    · exact ⟨0, fun h' => absurd h' h⟩
  replace HSH := Lib.hid HSH
  have H1 := Lib.hid (fun W => new_any m hm1 W)
  go_enter Try.func6, Try.ntmps6
  go_wp2_with fail
  refine (lives_any _).mono ?_
  rintro e w1 ⟨rfl, q⟩
  have hB := Lib.hid ((Sep.start w).below q)
  clear q
  go_wp2_with fail
  refine (HP.out _).mono ?_
  rintro e w2 ⟨rfl, rfl⟩
  go_wp2_with fail
  refine (H1.out _).mono ?_
  rintro e w3 ⟨p, rfl, q⟩
  have hS0 := Lib.hid (show Sep _ [poolR p (List.replicate m false), old w] from q.graft hB.out)
  clear q hB HP H1
  go_wp2_with fail
  go_loopw [7] (fun s wr => ∃ (r : Nat), r ≤ 2 ∧ s = .int .i64 r ∧ Hid (Sep wr [poolR p (List.replicate m false), old w])) (fun s _ => 2 - (intOf s).toNat)
  case atStart => exact ⟨0, Nat.zero_le _, rfl, hS0⟩
  case round =>
    clear hS0
    obtain ⟨r, hr, rfl, hS⟩ := hrel
    by_cases hlt : r < 2
    · have i0 : (r : Int) < 2 := by omega
      replace hS := Lib.hid (show Sep wr [poolR p (upTo m 0), old w] by rw [← upTo_zero]; exact hS.out)
      go_wp2_with fail
      go_loopw [8] (fun s wr => ∃ (i : Nat), i ≤ m ∧ s = .int .i64 i ∧ Hid (Sep wr [poolR p (upTo m i), old w])) (fun s _ => m - (intOf s).toNat)
      case atStart => exact ⟨0, Nat.zero_le _, rfl, hS⟩
      case round =>
        clear hS
        obtain ⟨i, hi, rfl, hS⟩ := hrel
        by_cases hil : i < m
        · have HT := Lib.hid (take_some p (upTo m i) _ _ hS.out (upTo_count hil) (by rw [upTo_len]; exact hm1))
          have i1 : (i : Int) < (m : Int) := by omega
          clear hS
          go_wp2_with fail
          refine HT.out.mono ?_
          rintro e w4 ⟨k, rfl, h1, h2, h3, q⟩
          have hki : k = i := by
            rw [upTo_len] at h1
            rw [upTo_get h1] at h2
            rcases Nat.lt_trichotomy k i with h | h | h
            · rw [decide_eq_true h] at h2; cases h2
            · exact h
            · have := h3 i h
              rw [upTo_get hil, decide_eq_false (by omega)] at this
              cases this
          subst hki
          rw [upTo_set hil] at q
          have hS := Lib.hid q
          clear q h1 h2 h3 HT
          go_wp2_with fail
          go_roundw
          case rel => exact ⟨k + 1, by omega, by go_num, hS⟩
          case measure => simp [intOf]; omega
        · obtain rfl : i = m := by omega
          have HT := Lib.hid (take_full p (upTo i i) _ _ hS.out (upTo_full i))
          have HL := Lib.hid (lent_own p (upTo i i) _ _ hS.out (by rw [upTo_len]; exact hm1))
          rw [lentU_full] at HL
          rw [List.length_map, List.length_range] at HL
          go_wp2_with fail
          refine HT.out.mono ?_
          rintro e w4 ⟨rfl, rfl⟩
          clear HT
          go_wp2_with fail
          refine HL.out.mono ?_
          rintro e w4 ⟨av, rfl, ho, q⟩
          replace hS := Lib.hid (hS.out.vec_new ho q)
          rw [ring_zero i sh] at hS
          obtain ⟨va, vc, rfl⟩ := own_slice ho
          clear q HL ho
          go_wp2_with fail
          go_loopw [15] (fun s wr => ∃ (k : Nat), k ≤ i ∧ s = .int .i64 k ∧ Hid (Sep wr [vec 3 1 (.slice va i vc) i (((List.range i).map (fun (j : Nat) => (j : Int))).map (Value.int .i64)), poolR p (ring i sh k), old w])) (fun s _ => i - (intOf s).toNat)
          case atStart => exact ⟨0, Nat.zero_le _, rfl, hS⟩
          case round =>
            clear hS
            obtain ⟨k, hk, rfl, hS⟩ := hrel
            by_cases hkl : k < i
            · have PS := HSH.out (by omega)
              have hsl := PS.lt
              have HJ := PS.run
              have hsl' : sh < i := by omega
              clear PS
              obtain ⟨g, hva, _, _, hcc⟩ := own_cells hS.out.gvec (by omega)
              subst hva
              have x0 := hcc k (by rw [List.length_map, List.length_map, List.length_range]; exact hkl)
              rw [List.getElem_map, List.getElem_map, List.getElem_range] at x0
              clear hcc
              have i1 : (k : Int) < (i : Int) := by omega
              have i2 : (0 : Int) ≤ (k : Int) := by omega
              have hp1 := pos_lt hsl' hkl
              have hp2 := pos_mod hsl' hkl
              have hp3 := ring_pos hsl' hkl
              have hp4 := ring_set hsl' hkl
              have hm0 : ((i : Int) == 0) = false := beq_eq_false_iff_ne.2 (by omega)
              have HG := Lib.hid (give_yes p (ring i sh k) (pos i sh k) _ _ hS.out.to1 (by rw [ring_len]; exact hp1) hp3 (by rw [ring_len]; exact hm1))
              rw [hp4] at HG
              generalize pos i sh k = P at *
              have i3 : (P : Int) < (i : Int) := by omega
              clear hp3 hp4 hS
              go_wp2_with fail
              refine (HJ.out _).mono ?_
              rintro e w5 ⟨rfl, rfl⟩
              go_wp2_with fail
              refine HG.out.mono ?_
              rintro e w5 ⟨rfl, q⟩
              have hS := Lib.hid q.to1
              clear q HG
              go_wp2_with fail
              go_roundw
              case rel => exact ⟨k + 1, by omega, by go_num, hS⟩
              case measure => simp [intOf]; omega
            · obtain rfl : k = i := by omega
              rw [ring_end (fun h => by have := (HSH.out h).lt; omega)] at hS
              have HV := Lib.hid (live_any p (List.replicate k false) _ _ hS.out.to1 (by rw [List.length_replicate]; exact hm1))
              rw [rep_count] at HV
              go_wp2_with fail
              refine HV.out.mono ?_
              rintro e w5 ⟨rfl, mm, rfl⟩
              replace hS := Lib.hid ((hS.out.tail).drewN mm)
              clear HV
              go_wp2_with fail
              go_roundw
              case rel => exact ⟨r + 1, by omega, by go_num, hS⟩
              case measure => simp [intOf]; omega
    · have i0 : ¬ (r : Int) < 2 := by omega
      go_wp2_with fail
      go_ret
      exact ⟨rfl, hS.out.tail.gold⟩
end Go.Proofs.Ytbfkkghbkpbhlaa
