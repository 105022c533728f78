/-
  The walk of PoolBack. No condition beside an argument that can be read.
-/
import Derived.Test.YtbfkkghbkpbhlaaPlLives
import Derived.Test.YtbfkkghbkpbhlaaPlLentC
import Derived.Test.YtbfkkghbkpbhlaaSameB
import Derived.Test.YtbfkkghbkpbhlaaPick
import Derived.Test.YtbfkkghbkpbhlaaOpen
namespace Go.Proofs.Ytbfkkghbkpbhlaa
open Go.RowKit
theorem take_gen (p : Nat) (lent : List Bool) (w : World) (rs : List Res) (hS : Sep w (poolR p lent :: rs)) (hm : lent.length ≤ 128) : Calls Try.prog 11 #[.pointer (some ⟨p, 0, none⟩)] w fun e w' => ∃ (a b : Int) (lent' : List Bool), e = .returned (.tuple #[.int .i64 a, .int .i64 b]) ∧ lent'.length = lent.length ∧ Sep w' (poolR p lent' :: rs) := by
  by_cases hf : lent.count true = lent.length
  · refine (take_full p lent w rs hS hf).mono ?_
    rintro e w1 ⟨rfl, rfl⟩
    exact ⟨_, _, lent, rfl, rfl, hS⟩
  · refine (take_some p lent w rs hS (by have := List.count_le_length (a := true) (l := lent); omega) hm).mono ?_
    rintro e w1 ⟨k, rfl, _, _, _, h⟩
    exact ⟨_, _, _, rfl, List.length_set, h⟩
theorem give_gen (p : Nat) (lent : List Bool) (id : Int) (w : World) (rs : List Res) (hS : Sep w (poolR p lent :: rs)) (hm : lent.length ≤ 128) : Calls Try.prog 12 #[.pointer (some ⟨p, 0, none⟩), .int .i64 id] w fun e w' => ∃ (b : Int) (lent' : List Bool), e = .returned (.int .i64 b) ∧ lent'.length = lent.length ∧ Sep w' (poolR p lent' :: rs) := by
  cases hb : (decide (0 ≤ id) && (decide (id < lent.length) && lent.getD id.toNat false)) with
  | false =>
    refine (give_no p lent id w rs hS hb).mono ?_
    rintro e w1 ⟨rfl, rfl⟩
    exact ⟨_, lent, rfl, rfl, hS⟩
  | true =>
    rw [Bool.and_eq_true, Bool.and_eq_true, decide_eq_true_eq, decide_eq_true_eq] at hb
    obtain ⟨k, rfl⟩ := Int.eq_ofNat_of_zero_le hb.1
    refine (give_yes p lent k w rs hS (by omega) (by simpa using hb.2.2) hm).mono ?_
    rintro e w1 ⟨rfl, h⟩
    exact ⟨_, _, rfl, List.length_set, h⟩
theorem lentU_mem (l : List Bool) (k : Nat) (v : Int) : v ∈ lentU l k ↔ ∃ u : Nat, u < k ∧ l.getD u false = true ∧ v = u := by
  unfold lentU
  simp only [List.mem_map, List.mem_filter, List.mem_range]
  constructor
  · rintro ⟨u, ⟨h1, h2⟩, h3⟩
    exact ⟨u, h1, h2, h3.symm⟩
  · rintro ⟨u, h1, h2, h3⟩
    exact ⟨u, ⟨h1, h2⟩, h3.symm⟩
theorem lentU_take (l : List Bool) : ∀ k, k ≤ l.length → (lentU l k).length = (l.take k).count true
  | 0, _ => by simp [lentU]
  | k + 1, h => by
    have ih := lentU_take l k (by omega)
    have e : l.take (k + 1) = l.take k ++ [l.getD k false] := by
      rw [List.take_add_one, List.getD_eq_getElem?_getD, List.getElem?_eq_getElem (by omega)]
      rfl
    rw [e, List.count_append]
    cases hb : l.getD k false with
    | true => rw [lentU_hit hb, List.length_append, ih]; rfl
    | false => rw [lentU_miss hb, ih]; rfl
theorem lentU_count (l : List Bool) : (lentU l l.length).length = l.count true := by
  rw [lentU_take l _ (Nat.le_refl _), List.take_length]
theorem lists_eq {a b : List Bool} (hl : a.length = b.length) (h : ∀ j, j < a.length → a.getD j false = b.getD j false) : a = b := by
  apply List.ext_getElem hl
  intro i h1 h2
  have := h i h1
  simpa [List.getD_eq_getElem?_getD, h1, h2] using this
/-- What is given back and taken again. -/
theorem back_law {lent : List Bool} {u k : Nat} (hu : u < lent.length) (hb : lent.getD u false = true) (hk : k < lent.length) (h1 : (lent.set u false).getD k false = false) (h2 : ∀ j, j < k → (lent.set u false).getD j false = true) :
    k ≤ u ∧ ((lent.set u false).set k true).count true = lent.count true ∧ (decide (lentU ((lent.set u false).set k true) lent.length = lentU lent lent.length) = decide (k = u)) := by
  have hset := fun j => getD_set lent u j false hu
  have hset2 := fun j => getD_set (lent.set u false) k j true (by rw [List.length_set]; exact hk)
  have hku : k ≤ u := by
    rcases Nat.lt_or_ge u k with h | h
    · have := h2 u h
      rw [hset, if_pos rfl] at this
      cases this
    · exact h
  refine ⟨hku, ?_, ?_⟩
  · have a1 := count_up (lent.set u false) k (by rw [List.length_set]; exact hk) h1
    have a2 := count_dn lent u hu hb
    omega
  · rw [decide_eq_decide]
    constructor
    · intro he
      have hm : (k : Int) ∈ lentU ((lent.set u false).set k true) lent.length := (lentU_mem _ _ _).2 ⟨k, hk, by rw [hset2, if_pos rfl], rfl⟩
      rw [he] at hm
      obtain ⟨q, hq, hq2, hq3⟩ := (lentU_mem _ _ _).1 hm
      have : k = q := by omega
      subst this
      rw [hset] at h1
      by_cases e : k = u
      · exact e
      · rw [if_neg e, hq2] at h1
        cases h1
    · rintro rfl
      congr 1
      refine lists_eq (by simp) (fun j hj => ?_)
      rw [hset2, hset]
      split
      · rename_i e; rw [e, hb]
      · rfl
set_option maxHeartbeats 4000000 in
set_option maxRecDepth 100000 in
theorem back_walk (most : Int) (a : Option Addr) (len cap : Nat) (z : List Int) (which : Int) (w : World) (hz : IsInts .i64 w a len cap z) : Calls Try.prog 7 #[.int .i64 most, .slice a len cap, .int .i64 which] w fun e w' => e = .returned (.bool true) ∧ Below w.heap.size w w' := by
  by_cases h80 : len ≤ 80
  · have i80 : (len : Int) ≤ 80 := by omega
    obtain ⟨m, PM⟩ := pick_nat most 40 (by omega) (by omega)
    have hm := PM.lt
    have HP := PM.run
    have hz' := Lib.hid hz.2.2.2
    clear hz PM
    have H1 := Lib.hid (fun W => new_any (m + 1) (by omega) W)
    rw [show ((m + 1 : Nat) : Int) = 1 + (m : Int) by omega] at H1
    go_enter Try.func7, Try.ntmps7
    go_wp2_with fail
    refine (lives_any _).mono ?_
    rintro e w1 ⟨rfl, q⟩
    have hB := Lib.hid ((Sep.start w).below q)
    clear q
    go_wp2_with fail
    refine (HP.out _).mono ?_
    rintro e w2 ⟨rfl, rfl⟩
    go_wp2_with fail
    refine (H1.out _).mono ?_
    rintro e w3 ⟨p, rfl, q⟩
    have hS0 := Lib.hid (show Sep _ [poolR p (List.replicate (m + 1) false), old w] from q.graft hB.out)
    clear q hB HP H1
    go_wp2_with fail
    go_loopw [9] (fun s wr => ∃ (k : Nat) (lent : List Bool), k ≤ len ∧ s = .int .i64 k ∧ Hid (lent.length = m + 1) ∧ Hid (Sep wr [poolR p lent, old w])) (fun s _ => len - (intOf s).toNat)
    case atStart => exact ⟨0, _, Nat.zero_le _, rfl, List.length_replicate, hS0⟩
    case round =>
      clear hS0
      obtain ⟨k, lent, hk, rfl, hl, hS⟩ := hrel
      by_cases hlt : k < len
      · obtain ⟨b, off, rfl, hbl, hc⟩ := hz'.out (by omega)
        have x0 := (hc k hlt).1
        generalize z.getD k 0 = v at *
        have c0 := (hS.out.tail.gold.cell (p := ⟨b, off + k, none⟩) hbl).trans x0
        have i1 : (0 : Int) ≤ (k : Int) := by omega
        have i2 : (k : Int) < (len : Int) := by omega
        clear x0 hc
        by_cases hv : v < 0
        · have HT := Lib.hid (take_gen p lent wr _ hS.out (by rw [hl.out]; omega))
          clear hS
          go_wp2_with fail
          refine HT.out.mono ?_
          rintro e w4 ⟨t1, t2, lent2, rfl, hl2, hS⟩
          replace hl2 := Lib.hid (hl2.trans hl.out)
          replace hS := Lib.hid hS
          go_wp2_with fail
          go_roundw
          case rel => exact ⟨k + 1, lent2, by omega, by go_num, hl2, hS⟩
          case measure => simp [intOf]; omega
        · have HT := Lib.hid (give_gen p lent v wr _ hS.out (by rw [hl.out]; omega))
          clear hS
          go_wp2_with fail
          refine HT.out.mono ?_
          rintro e w4 ⟨t1, lent2, rfl, hl2, hS⟩
          replace hl2 := Lib.hid (hl2.trans hl.out)
          replace hS := Lib.hid hS
          go_wp2_with fail
          go_roundw
          case rel => exact ⟨k + 1, lent2, by omega, by go_num, hl2, hS⟩
          case measure => simp [intOf]; omega
      · have HL := Lib.hid (lent_own p lent wr _ hS.out (by rw [hl.out]; omega))
        have hcnt := lentU_count lent
        have hcl := List.count_le_length (a := true) (l := lent)
        have hlm : lent.length ≤ 128 := by rw [hl.out]; omega
        rw [hcnt] at HL
        clear hz'
        obtain ⟨L, hLe⟩ : ∃ L, lent.count true = L := ⟨_, rfl⟩
        rw [hLe] at HL hcnt hcl
        go_wp2_with fail
        refine HL.out.mono ?_
        rintro e w4 ⟨av, rfl, ho, q⟩
        replace hS := Lib.hid (hS.out.vec_new ho q)
        obtain ⟨va, vc, rfl⟩ := own_slice ho
        clear q HL ho
        by_cases h0 : L = 0
        · subst h0
          have HV := Lib.hid (live_any p lent _ _ hS.out.tail hlm)
          rw [hLe] at HV
          clear hLe hcl hcnt hlm
          go_wp2_with fail
          refine HV.out.mono ?_
          rintro e w5 ⟨rfl, mm, rfl⟩
          go_wp2_with fail
          go_ret
          exact ⟨rfl, (hS.out.drewN mm).tail.tail.gold⟩
        · have hL0 : 0 < L := by omega
          obtain ⟨j, PJ⟩ := pick_nat which L (by omega) (by omega)
          have hj := PJ.lt
          have HJ := PJ.run
          clear PJ
          obtain ⟨u, hu, hub, hun⟩ := (lentU_mem lent lent.length ((lentU lent lent.length).getD j 0)).1 (by
            rw [List.getD_eq_getElem?_getD, List.getElem?_eq_getElem (by omega)]
            exact List.getElem_mem _)
          obtain ⟨g, hva, _, _, hcc⟩ := own_cells hS.out.gvec hL0
          subst hva
          have x0 := hcc j (by rw [List.length_map]; omega)
          have hxj : ((lentU lent lent.length).map (Value.int .i64))[j]'(by rw [List.length_map]; omega) = .int .i64 (u : Int) := by
            rw [List.getElem_map, ← hun, List.getD_eq_getElem?_getD, List.getElem?_eq_getElem (by omega)]
            rfl
          rw [hxj] at x0
          clear hcc hxj hun
          have HG := Lib.hid (give_yes p lent u _ _ hS.out.to1 hu hub hlm)
          have i1 : (0 : Int) ≤ (j : Int) := by omega
          have i2 : (j : Int) < (L : Int) := by omega
          have i3 : ¬ (L : Int) = 0 := by omega
          have i4 : ((L : Int) == 0) = false := beq_eq_false_iff_ne.2 i3
          have i5 : (L : Int) ≤ 128 := by omega
          go_wp2_with fail
          refine (HJ _).mono ?_
          rintro e w5 ⟨rfl, rfl⟩
          go_wp2_with fail
          refine HG.out.mono ?_
          rintro e w5 ⟨rfl, q⟩
          replace hS := Lib.hid q
          clear q HG
          have hlm2 : (lent.set u false).length ≤ 128 := by rw [List.length_set]; exact hlm
          have HH := Lib.hid (has_at p (lent.set u false) u _ _ hS.out (by rw [List.length_set]; exact hu))
          rw [getD_set lent u u false hu, if_pos rfl] at HH
          have hc1 : (((lent.set u false).count true : Nat) : Int) = (L : Int) - 1 := by
            have := count_dn lent u hu hub
            omega
          have HV := Lib.hid (live_any p (lent.set u false) _ _ hS.out hlm2)
          rw [hc1] at HV
          have HT := Lib.hid (fun mm => take_some p (lent.set u false) _ _ (hS.out.drewN mm) (by rw [List.length_set]; omega) hlm2)
          clear x0
          go_wp2_with fail
          refine HH.out.mono ?_
          rintro e w6 ⟨rfl, rfl⟩
          go_wp2_with fail
          refine HV.out.mono ?_
          rintro e w6 ⟨rfl, mm, rfl⟩
          replace hS := Lib.hid (hS.out.drewN mm)
          go_wp2_with fail
          refine (HT.out mm).mono ?_
          rintro e w7 ⟨k2, rfl, hk2, hk2f, hk2l, q⟩
          clear HH HV HT hS
          have hS := Lib.hid q
          clear q
          rw [List.length_set] at hk2
          obtain ⟨hku, hcn, hsame⟩ := back_law hu hub hk2 hk2f hk2l
          obtain ⟨l3, hl3⟩ : ∃ l3, (lent.set u false).set k2 true = l3 := ⟨_, rfl⟩
          rw [hl3] at hS hcn hsame
          have hll : l3.length = lent.length := by rw [← hl3, List.length_set, List.length_set]
          have hcnt3 := lentU_count l3
          have HL := Lib.hid (lent_own p l3 _ _ hS.out (by rw [hll]; exact hlm))
          rw [hcnt3, hcn, hLe, hll] at HL
          rw [hcn, hLe, hll] at hcnt3
          go_wp2_with fail
          refine HL.out.mono ?_
          rintro e w8 ⟨bv, rfl, ho, q⟩
          replace hS := Lib.hid (hS.out.vec_new ho q)
          obtain ⟨vb, vd, rfl⟩ := own_slice ho
          clear q HL ho
          have hI3 := hS.out.vec_ri
          have hI1 := hS.out.to2.vec_ri
          have HS := Lib.hid (same_any _ _ _ _ _ (by omega) (by omega) hI3 hI1)
          rw [hsame] at HS
          have i6 : (k2 : Int) ≤ (u : Int) := by omega
          have i7 : ((k2 : Int) == (u : Int)) = decide (k2 = u) := by
            rw [Bool.eq_iff_iff, beq_iff_eq, decide_eq_true_eq]; omega
          clear hI3 hI1 hsame
          go_wp2_with fail
          refine HS.out.mono ?_
          rintro e w9 ⟨rfl, m9, rfl⟩
          go_wp2_with fail
          go_ret
          exact ⟨rfl, (hS.out.drewN m9).tail.tail.tail.gold⟩
  · have i80 : ¬ (len : Int) ≤ 80 := by omega
    go_enter Try.func7, Try.ntmps7
    go_wp2_with fail
    refine (lives_any _).mono ?_
    rintro e w1 ⟨rfl, q⟩
    have hB := Lib.hid ((Sep.start w).below q)
    clear q
    go_wp2_with fail
    go_ret
    exact ⟨rfl, hB.out.gold⟩
end Go.Proofs.Ytbfkkghbkpbhlaa
