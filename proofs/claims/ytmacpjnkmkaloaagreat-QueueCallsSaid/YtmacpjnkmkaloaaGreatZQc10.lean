/-
  Contracts and plain laws that the walk leans on, part 10. No condition.
-/
import Derived.Test.YtmacpjnkmkaloaaGreatZQc9
namespace Go.Proofs.YtmacpjnkmkaloaaGreat
set_option linter.unusedSimpArgs false
set_option linter.unusedVariables false
set_option linter.unnecessarySimpa false
open Go.RowKit
set_option maxHeartbeats 1000000 in
theorem rightP_any (r : Rq) (n : Int) (w : World) : Calls Tryz.prog 34 #[r.val, .int .i64 n] w fun e w' => e = .returned (.bool (rightB r n)) ∧ Below w.heap.size w w' := by
  have Km := Lib.hid (fun W => known_any r.mode W)
  have Kw := Lib.hid (fun W => known_any r.want W)
  have HW := Lib.hid (fun W => waits_any r W)
  have HH := Lib.hid (fun W => holds_any r W)
  have HC := Lib.hid (fun W => covers_any r.mode r.want W)
  unfold rightB
  obtain ⟨id, txn, mode, want, since⟩ := r
  have hb0 := Lib.hid ((Below.refl w.heap.size w).alloc (Nat.le_refl _) (.cells #[.int .i64 id, .int .i64 txn, .int .i64 mode, .int .i64 want, .int .i64 since] 42))
  unfold Rq.val at *
  simp only at Km Kw HW HH HC ⊢
  by_cases h0 : id < 0
  · have d0 : decide (id < 0) = true := decide_eq_true h0
    rw [show decide (0 ≤ id) = false by simp; omega]
    clear h0
    go_enter Tryz.func34, Tryz.ntmps34
    go_wp2_with fail
    all_goals go_ret
    all_goals exact ⟨by first | rfl | (simp; done), hb0.out⟩
  · have d0 : decide (id < 0) = false := decide_eq_false h0
    rw [show decide (0 ≤ id) = true by simp; omega]
    clear h0
    cases hm : knownB mode with
    | false =>
      rw [hm] at Km
      go_enter Tryz.func34, Tryz.ntmps34
      go_wp2_with fail
      refine (Km.out _).mono ?_
      rintro e w' ⟨rfl, rfl⟩
      go_wp2_with fail
      all_goals go_ret
      all_goals exact ⟨by first | rfl | (simp; done), hb0.out⟩
    | true =>
      rw [hm] at Km
      cases hw : knownB want with
      | false =>
        rw [hw] at Kw
        go_enter Tryz.func34, Tryz.ntmps34
        go_wp2_with fail
        refine (Km.out _).mono ?_
        rintro e w' ⟨rfl, rfl⟩
        go_wp2_with fail
        refine (Kw.out _).mono ?_
        rintro e w' ⟨rfl, rfl⟩
        go_wp2_with fail
        all_goals go_ret
        all_goals exact ⟨by first | rfl | (simp; done), hb0.out⟩
      | true =>
        rw [hw] at Kw
        by_cases h1 : since < 0
        · have d1 : decide (since < 0) = true := decide_eq_true h1
          rw [show decide (0 ≤ since) = false by simp; omega]
          clear h1
          go_enter Tryz.func34, Tryz.ntmps34
          go_wp2_with fail
          refine (Km.out _).mono ?_
          rintro e w' ⟨rfl, rfl⟩
          go_wp2_with fail
          refine (Kw.out _).mono ?_
          rintro e w' ⟨rfl, rfl⟩
          go_wp2_with fail
          all_goals go_ret
          all_goals exact ⟨by first | rfl | (simp; done), hb0.out⟩
        · have d1 : decide (since < 0) = false := decide_eq_false h1
          rw [show decide (0 ≤ since) = true by simp; omega]
          clear h1
          by_cases h2 : n < since
          · have d2 : decide (n < since) = true := decide_eq_true h2
            rw [show decide (since ≤ n) = false by simp; omega]
            clear h2
            go_enter Tryz.func34, Tryz.ntmps34
            go_wp2_with fail
            refine (Km.out _).mono ?_
            rintro e w' ⟨rfl, rfl⟩
            go_wp2_with fail
            refine (Kw.out _).mono ?_
            rintro e w' ⟨rfl, rfl⟩
            go_wp2_with fail
            all_goals go_ret
            all_goals exact ⟨by first | rfl | (simp; done), hb0.out⟩
          · have d2 : decide (n < since) = false := decide_eq_false h2
            rw [show decide (since ≤ n) = true by simp; omega]
            clear h2
            by_cases h3 : 0 < since
            · rw [decide_eq_true h3] at HW
              rw [if_pos h3]
              clear h3
              go_enter Tryz.func34, Tryz.ntmps34
              go_wp2_with fail
              refine (Km.out _).mono ?_
              rintro e w' ⟨rfl, rfl⟩
              go_wp2_with fail
              refine (Kw.out _).mono ?_
              rintro e w' ⟨rfl, rfl⟩
              go_wp2_with fail
              refine (HW.out _).mono ?_
              rintro e w1 ⟨rfl, b1⟩
              obtain ⟨c0, c1, c2, c3, c4⟩ := cellsA b1 _ _ _ _ _ rfl
              have hb1 := Lib.hid (belA _ b1)
              clear b1
              go_wp2_with fail
              refine (HC.out _).mono ?_
              rintro e w2 ⟨rfl, b2⟩
              replace hb1 := Lib.hid (belT hb1.out b2)
              clear b2 c0 c1 c2 c3 c4
              go_wp2_with fail
              all_goals go_ret
              all_goals exact ⟨by first | rfl | (simp; done), hb1.out⟩
            · rw [decide_eq_false h3] at HW
              rw [if_neg h3]
              clear h3
              cases hmo : mode != 0 with
              | false =>
                rw [hmo] at HH
                go_enter Tryz.func34, Tryz.ntmps34
                go_wp2_with fail
                refine (Km.out _).mono ?_
                rintro e w' ⟨rfl, rfl⟩
                go_wp2_with fail
                refine (Kw.out _).mono ?_
                rintro e w' ⟨rfl, rfl⟩
                go_wp2_with fail
                refine (HW.out _).mono ?_
                rintro e w1 ⟨rfl, b1⟩
                obtain ⟨c0, c1, c2, c3, c4⟩ := cellsA b1 _ _ _ _ _ rfl
                have hb1 := Lib.hid (belA _ b1)
                clear b1
                go_wp2_with fail
                refine (HH.out _).mono ?_
                rintro e w2 ⟨rfl, b2⟩
                replace hb1 := Lib.hid (belT hb1.out b2)
                clear b2 c0 c1 c2 c3 c4
                go_wp2_with fail
                all_goals go_ret
                all_goals exact ⟨by first | rfl | (simp; done), hb1.out⟩
              | true =>
                rw [hmo] at HH
                go_enter Tryz.func34, Tryz.ntmps34
                go_wp2_with fail
                refine (Km.out _).mono ?_
                rintro e w' ⟨rfl, rfl⟩
                go_wp2_with fail
                refine (Kw.out _).mono ?_
                rintro e w' ⟨rfl, rfl⟩
                go_wp2_with fail
                refine (HW.out _).mono ?_
                rintro e w1 ⟨rfl, b1⟩
                obtain ⟨c0, c1, c2, c3, c4⟩ := cellsA b1 _ _ _ _ _ rfl
                have hb1 := Lib.hid (belA _ b1)
                clear b1
                have hcc := Lib.hid (And.intro c2 c3)
                go_wp2_with fail
                refine (HH.out _).mono ?_
                rintro e w2 ⟨rfl, b2⟩
                have l1 := World.block_lt_of_cell? _ _ c0
                replace c2 := (b2.cell (p := ⟨w.heap.size, 2, none⟩) l1).trans c2
                replace c3 := (b2.cell (p := ⟨w.heap.size, 3, none⟩) l1).trans c3
                replace hb1 := Lib.hid (belT hb1.out b2)
                clear b2 c0 c1 c4
                go_wp2_with fail
                all_goals go_ret
                all_goals exact ⟨by first | rfl | (simp; done), hb1.out⟩

def besideB (a b : Rq) : Bool := if (a.id == b.id || a.txn == b.txn) || (decide (0 < a.since) && a.since == b.since) then false else if a.mode != 0 && b.mode != 0 then comB a.mode b.mode else if a.mode != 0 then true else (!(b.mode != 0) && decide (a.since < b.since))
def blocksB (a b : Rq) : Bool := if a.id == b.id then false else if a.mode != 0 && !comB a.mode b.want then true else if upB a then (!(b.mode != 0) || decide (a.since < b.since)) else (!(b.mode != 0) && (!(a.mode != 0) && decide (a.since < b.since)))
set_option maxHeartbeats 1000000 in
theorem beside_any (a b : Rq) (w : World) : Calls Tryz.prog 33 #[a.val, b.val] w fun e w' => e = .returned (.bool (besideB a b)) ∧ Below w.heap.size w w' := by
  have HWa := Lib.hid (fun W => waits_any a W)
  have HHa := Lib.hid (fun W => holds_any a W)
  have HHb := Lib.hid (fun W => holds_any b W)
  have HC := Lib.hid (fun W => compat_any a.mode b.mode W)
  obtain ⟨aid, atxn, amode, awant, asince⟩ := a
  obtain ⟨bid, btxn, bmode, bwant, bsince⟩ := b
  have hB := Lib.hid (boxes2 w 42 42 #[.int .i64 aid, .int .i64 atxn, .int .i64 amode, .int .i64 awant, .int .i64 asince] #[.int .i64 bid, .int .i64 btxn, .int .i64 bmode, .int .i64 bwant, .int .i64 bsince])
  unfold Rq.val at *
  simp only at *
  cases h1 : aid == bid with
  | true =>
    have E := Lib.hid (show besideB ⟨aid, atxn, amode, awant, asince⟩ ⟨bid, btxn, bmode, bwant, bsince⟩ = false by simp [besideB, upB, h1])
    rw [E.out]
    clear E
    go_enter Tryz.func33, Tryz.ntmps33
    go_wp2_with fail
    go_ret
    exact ⟨rfl, hB.out.tail.tail.gold⟩
  | false =>
    cases h2 : atxn == btxn with
    | true =>
      have E := Lib.hid (show besideB ⟨aid, atxn, amode, awant, asince⟩ ⟨bid, btxn, bmode, bwant, bsince⟩ = false by simp [besideB, upB, h1, h2])
      rw [E.out]
      clear E
      go_enter Tryz.func33, Tryz.ntmps33
      go_wp2_with fail
      go_ret
      exact ⟨rfl, hB.out.tail.tail.gold⟩
    | false =>
      cases h3 : decide (0 < asince) with
      | true =>
        cases h4 : asince == bsince with
        | true =>
          have E := Lib.hid (show besideB ⟨aid, atxn, amode, awant, asince⟩ ⟨bid, btxn, bmode, bwant, bsince⟩ = false by simp [besideB, upB, h1, h2, h3, h4])
          rw [E.out]
          clear E
          try simp only [upB] at HWa
          try simp only [h1] at HWa
          try simp only [h2] at HWa
          try simp only [h3] at HWa
          try simp only [h4] at HWa
          try simp only [Bool.true_and] at HWa
          try simp only [Bool.false_and] at HWa
          try simp only [Bool.and_true] at HWa
          try simp only [Bool.and_false] at HWa
          go_enter Tryz.func33, Tryz.ntmps33
          go_wp2_with fail
          refine (HWa.out _).mono ?_
          rintro e w1 ⟨rfl, b1⟩
          replace hB := Lib.hid (hB.out.below b1)
          clear b1
          obtain ⟨_, c0, c1, c2, c3, c4, _⟩ := hB.out.b5
          obtain ⟨_, d0, d1, d2, d3, d4, _⟩ := hB.out.to1.b5
          go_wp2_with fail
          go_ret
          exact ⟨rfl, hB.out.tail.tail.gold⟩
        | false =>
          cases h5 : amode != 0 with
          | true =>
            cases h6 : bmode != 0 with
            | true =>
              have E := Lib.hid (show besideB ⟨aid, atxn, amode, awant, asince⟩ ⟨bid, btxn, bmode, bwant, bsince⟩ = comB amode bmode by simp [besideB, upB, h1, h2, h3, h4, h5, h6])
              rw [E.out]
              clear E
              try simp only [upB] at HWa
              try simp only [h1] at HWa
              try simp only [h2] at HWa
              try simp only [h3] at HWa
              try simp only [h4] at HWa
              try simp only [h5] at HWa
              try simp only [h6] at HWa
              try simp only [Bool.true_and] at HWa
              try simp only [Bool.false_and] at HWa
              try simp only [Bool.and_true] at HWa
              try simp only [Bool.and_false] at HWa
              try simp only [upB] at HHa
              try simp only [h1] at HHa
              try simp only [h2] at HHa
              try simp only [h3] at HHa
              try simp only [h4] at HHa
              try simp only [h5] at HHa
              try simp only [h6] at HHa
              try simp only [Bool.true_and] at HHa
              try simp only [Bool.false_and] at HHa
              try simp only [Bool.and_true] at HHa
              try simp only [Bool.and_false] at HHa
              try simp only [upB] at HHb
              try simp only [h1] at HHb
              try simp only [h2] at HHb
              try simp only [h3] at HHb
              try simp only [h4] at HHb
              try simp only [h5] at HHb
              try simp only [h6] at HHb
              try simp only [Bool.true_and] at HHb
              try simp only [Bool.false_and] at HHb
              try simp only [Bool.and_true] at HHb
              try simp only [Bool.and_false] at HHb
              try simp only [upB] at HC
              try simp only [h1] at HC
              try simp only [h2] at HC
              try simp only [h3] at HC
              try simp only [h4] at HC
              try simp only [h5] at HC
              try simp only [h6] at HC
              try simp only [Bool.true_and] at HC
              try simp only [Bool.false_and] at HC
              try simp only [Bool.and_true] at HC
              try simp only [Bool.and_false] at HC
              go_enter Tryz.func33, Tryz.ntmps33
              go_wp2_with fail
              refine (HWa.out _).mono ?_
              rintro e w1 ⟨rfl, b1⟩
              replace hB := Lib.hid (hB.out.below b1)
              clear b1
              obtain ⟨_, c0, c1, c2, c3, c4, _⟩ := hB.out.b5
              obtain ⟨_, d0, d1, d2, d3, d4, _⟩ := hB.out.to1.b5
              go_wp2_with fail
              refine (HHa.out _).mono ?_
              rintro e w2 ⟨rfl, b2⟩
              replace hB := Lib.hid (hB.out.below b2)
              clear b2 c0 c1 c2 c3 c4 d0 d1 d2 d3 d4
              obtain ⟨_, c0, c1, c2, c3, c4, _⟩ := hB.out.b5
              obtain ⟨_, d0, d1, d2, d3, d4, _⟩ := hB.out.to1.b5
              go_wp2_with fail
              refine (HHb.out _).mono ?_
              rintro e w3 ⟨rfl, b3⟩
              replace hB := Lib.hid (hB.out.below b3)
              clear b3 c0 c1 c2 c3 c4 d0 d1 d2 d3 d4
              obtain ⟨_, c0, c1, c2, c3, c4, _⟩ := hB.out.b5
              obtain ⟨_, d0, d1, d2, d3, d4, _⟩ := hB.out.to1.b5
              go_wp2_with fail
              refine (HC.out _).mono ?_
              rintro e w4 ⟨rfl, b4⟩
              replace hB := Lib.hid (hB.out.below b4)
              clear b4 c0 c1 c2 c3 c4 d0 d1 d2 d3 d4
              obtain ⟨_, c0, c1, c2, c3, c4, _⟩ := hB.out.b5
              obtain ⟨_, d0, d1, d2, d3, d4, _⟩ := hB.out.to1.b5
              go_wp2_with fail
              go_ret
              exact ⟨rfl, hB.out.tail.tail.gold⟩
            | false =>
              have E := Lib.hid (show besideB ⟨aid, atxn, amode, awant, asince⟩ ⟨bid, btxn, bmode, bwant, bsince⟩ = true by simp [besideB, upB, h1, h2, h3, h4, h5, h6])
              rw [E.out]
              clear E
              try simp only [upB] at HWa
              try simp only [h1] at HWa
              try simp only [h2] at HWa
              try simp only [h3] at HWa
              try simp only [h4] at HWa
              try simp only [h5] at HWa
              try simp only [h6] at HWa
              try simp only [Bool.true_and] at HWa
              try simp only [Bool.false_and] at HWa
              try simp only [Bool.and_true] at HWa
              try simp only [Bool.and_false] at HWa
              try simp only [upB] at HHa
              try simp only [h1] at HHa
              try simp only [h2] at HHa
              try simp only [h3] at HHa
              try simp only [h4] at HHa
              try simp only [h5] at HHa
              try simp only [h6] at HHa
              try simp only [Bool.true_and] at HHa
              try simp only [Bool.false_and] at HHa
              try simp only [Bool.and_true] at HHa
              try simp only [Bool.and_false] at HHa
              try simp only [upB] at HHb
              try simp only [h1] at HHb
              try simp only [h2] at HHb
              try simp only [h3] at HHb
              try simp only [h4] at HHb
              try simp only [h5] at HHb
              try simp only [h6] at HHb
              try simp only [Bool.true_and] at HHb
              try simp only [Bool.false_and] at HHb
              try simp only [Bool.and_true] at HHb
              try simp only [Bool.and_false] at HHb
              go_enter Tryz.func33, Tryz.ntmps33
              go_wp2_with fail
              refine (HWa.out _).mono ?_
              rintro e w1 ⟨rfl, b1⟩
              replace hB := Lib.hid (hB.out.below b1)
              clear b1
              obtain ⟨_, c0, c1, c2, c3, c4, _⟩ := hB.out.b5
              obtain ⟨_, d0, d1, d2, d3, d4, _⟩ := hB.out.to1.b5
              go_wp2_with fail
              refine (HHa.out _).mono ?_
              rintro e w2 ⟨rfl, b2⟩
              replace hB := Lib.hid (hB.out.below b2)
              clear b2 c0 c1 c2 c3 c4 d0 d1 d2 d3 d4
              obtain ⟨_, c0, c1, c2, c3, c4, _⟩ := hB.out.b5
              obtain ⟨_, d0, d1, d2, d3, d4, _⟩ := hB.out.to1.b5
              go_wp2_with fail
              refine (HHb.out _).mono ?_
              rintro e w3 ⟨rfl, b3⟩
              replace hB := Lib.hid (hB.out.below b3)
              clear b3 c0 c1 c2 c3 c4 d0 d1 d2 d3 d4
              obtain ⟨_, c0, c1, c2, c3, c4, _⟩ := hB.out.b5
              obtain ⟨_, d0, d1, d2, d3, d4, _⟩ := hB.out.to1.b5
              go_wp2_with fail
              refine (HHa.out _).mono ?_
              rintro e w4 ⟨rfl, b4⟩
              replace hB := Lib.hid (hB.out.below b4)
              clear b4 c0 c1 c2 c3 c4 d0 d1 d2 d3 d4
              obtain ⟨_, c0, c1, c2, c3, c4, _⟩ := hB.out.b5
              obtain ⟨_, d0, d1, d2, d3, d4, _⟩ := hB.out.to1.b5
              go_wp2_with fail
              go_ret
              exact ⟨rfl, hB.out.tail.tail.gold⟩
          | false =>
            cases h6 : bmode != 0 with
            | true =>
              have E := Lib.hid (show besideB ⟨aid, atxn, amode, awant, asince⟩ ⟨bid, btxn, bmode, bwant, bsince⟩ = false by simp [besideB, upB, h1, h2, h3, h4, h5, h6])
              rw [E.out]
              clear E
              try simp only [upB] at HWa
              try simp only [h1] at HWa
              try simp only [h2] at HWa
              try simp only [h3] at HWa
              try simp only [h4] at HWa
              try simp only [h5] at HWa
              try simp only [h6] at HWa
              try simp only [Bool.true_and] at HWa
              try simp only [Bool.false_and] at HWa
              try simp only [Bool.and_true] at HWa
              try simp only [Bool.and_false] at HWa
              try simp only [upB] at HHa
              try simp only [h1] at HHa
              try simp only [h2] at HHa
              try simp only [h3] at HHa
              try simp only [h4] at HHa
              try simp only [h5] at HHa
              try simp only [h6] at HHa
              try simp only [Bool.true_and] at HHa
              try simp only [Bool.false_and] at HHa
              try simp only [Bool.and_true] at HHa
              try simp only [Bool.and_false] at HHa
              try simp only [upB] at HHb
              try simp only [h1] at HHb
              try simp only [h2] at HHb
              try simp only [h3] at HHb
              try simp only [h4] at HHb
              try simp only [h5] at HHb
              try simp only [h6] at HHb
              try simp only [Bool.true_and] at HHb
              try simp only [Bool.false_and] at HHb
              try simp only [Bool.and_true] at HHb
              try simp only [Bool.and_false] at HHb
              go_enter Tryz.func33, Tryz.ntmps33
              go_wp2_with fail
              refine (HWa.out _).mono ?_
              rintro e w1 ⟨rfl, b1⟩
              replace hB := Lib.hid (hB.out.below b1)
              clear b1
              obtain ⟨_, c0, c1, c2, c3, c4, _⟩ := hB.out.b5
              obtain ⟨_, d0, d1, d2, d3, d4, _⟩ := hB.out.to1.b5
              go_wp2_with fail
              refine (HHa.out _).mono ?_
              rintro e w2 ⟨rfl, b2⟩
              replace hB := Lib.hid (hB.out.below b2)
              clear b2 c0 c1 c2 c3 c4 d0 d1 d2 d3 d4
              obtain ⟨_, c0, c1, c2, c3, c4, _⟩ := hB.out.b5
              obtain ⟨_, d0, d1, d2, d3, d4, _⟩ := hB.out.to1.b5
              go_wp2_with fail
              refine (HHa.out _).mono ?_
              rintro e w3 ⟨rfl, b3⟩
              replace hB := Lib.hid (hB.out.below b3)
              clear b3 c0 c1 c2 c3 c4 d0 d1 d2 d3 d4
              obtain ⟨_, c0, c1, c2, c3, c4, _⟩ := hB.out.b5
              obtain ⟨_, d0, d1, d2, d3, d4, _⟩ := hB.out.to1.b5
              go_wp2_with fail
              refine (HHb.out _).mono ?_
              rintro e w4 ⟨rfl, b4⟩
              replace hB := Lib.hid (hB.out.below b4)
              clear b4 c0 c1 c2 c3 c4 d0 d1 d2 d3 d4
              obtain ⟨_, c0, c1, c2, c3, c4, _⟩ := hB.out.b5
              obtain ⟨_, d0, d1, d2, d3, d4, _⟩ := hB.out.to1.b5
              go_wp2_with fail
              go_ret
              exact ⟨rfl, hB.out.tail.tail.gold⟩
            | false =>
              have E := Lib.hid (show besideB ⟨aid, atxn, amode, awant, asince⟩ ⟨bid, btxn, bmode, bwant, bsince⟩ = decide (asince < bsince) by simp [besideB, upB, h1, h2, h3, h4, h5, h6])
              rw [E.out]
              clear E
              try simp only [upB] at HWa
              try simp only [h1] at HWa
              try simp only [h2] at HWa
              try simp only [h3] at HWa
              try simp only [h4] at HWa
              try simp only [h5] at HWa
              try simp only [h6] at HWa
              try simp only [Bool.true_and] at HWa
              try simp only [Bool.false_and] at HWa
              try simp only [Bool.and_true] at HWa
              try simp only [Bool.and_false] at HWa
              try simp only [upB] at HHa
              try simp only [h1] at HHa
              try simp only [h2] at HHa
              try simp only [h3] at HHa
              try simp only [h4] at HHa
              try simp only [h5] at HHa
              try simp only [h6] at HHa
              try simp only [Bool.true_and] at HHa
              try simp only [Bool.false_and] at HHa
              try simp only [Bool.and_true] at HHa
              try simp only [Bool.and_false] at HHa
              try simp only [upB] at HHb
              try simp only [h1] at HHb
              try simp only [h2] at HHb
              try simp only [h3] at HHb
              try simp only [h4] at HHb
              try simp only [h5] at HHb
              try simp only [h6] at HHb
              try simp only [Bool.true_and] at HHb
              try simp only [Bool.false_and] at HHb
              try simp only [Bool.and_true] at HHb
              try simp only [Bool.and_false] at HHb
              go_enter Tryz.func33, Tryz.ntmps33
              go_wp2_with fail
              refine (HWa.out _).mono ?_
              rintro e w1 ⟨rfl, b1⟩
              replace hB := Lib.hid (hB.out.below b1)
              clear b1
              obtain ⟨_, c0, c1, c2, c3, c4, _⟩ := hB.out.b5
              obtain ⟨_, d0, d1, d2, d3, d4, _⟩ := hB.out.to1.b5
              go_wp2_with fail
              refine (HHa.out _).mono ?_
              rintro e w2 ⟨rfl, b2⟩
              replace hB := Lib.hid (hB.out.below b2)
              clear b2 c0 c1 c2 c3 c4 d0 d1 d2 d3 d4
              obtain ⟨_, c0, c1, c2, c3, c4, _⟩ := hB.out.b5
              obtain ⟨_, d0, d1, d2, d3, d4, _⟩ := hB.out.to1.b5
              go_wp2_with fail
              refine (HHa.out _).mono ?_
              rintro e w3 ⟨rfl, b3⟩
              replace hB := Lib.hid (hB.out.below b3)
              clear b3 c0 c1 c2 c3 c4 d0 d1 d2 d3 d4
              obtain ⟨_, c0, c1, c2, c3, c4, _⟩ := hB.out.b5
              obtain ⟨_, d0, d1, d2, d3, d4, _⟩ := hB.out.to1.b5
              go_wp2_with fail
              refine (HHb.out _).mono ?_
              rintro e w4 ⟨rfl, b4⟩
              replace hB := Lib.hid (hB.out.below b4)
              clear b4 c0 c1 c2 c3 c4 d0 d1 d2 d3 d4
              obtain ⟨_, c0, c1, c2, c3, c4, _⟩ := hB.out.b5
              obtain ⟨_, d0, d1, d2, d3, d4, _⟩ := hB.out.to1.b5
              go_wp2_with fail
              go_ret
              exact ⟨rfl, hB.out.tail.tail.gold⟩
      | false =>
        cases h4 : amode != 0 with
        | true =>
          cases h5 : bmode != 0 with
          | true =>
            have E := Lib.hid (show besideB ⟨aid, atxn, amode, awant, asince⟩ ⟨bid, btxn, bmode, bwant, bsince⟩ = comB amode bmode by simp [besideB, upB, h1, h2, h3, h4, h5])
            rw [E.out]
            clear E
            try simp only [upB] at HWa
            try simp only [h1] at HWa
            try simp only [h2] at HWa
            try simp only [h3] at HWa
            try simp only [h4] at HWa
            try simp only [h5] at HWa
            try simp only [Bool.true_and] at HWa
            try simp only [Bool.false_and] at HWa
            try simp only [Bool.and_true] at HWa
            try simp only [Bool.and_false] at HWa
            try simp only [upB] at HHa
            try simp only [h1] at HHa
            try simp only [h2] at HHa
            try simp only [h3] at HHa
            try simp only [h4] at HHa
            try simp only [h5] at HHa
            try simp only [Bool.true_and] at HHa
            try simp only [Bool.false_and] at HHa
            try simp only [Bool.and_true] at HHa
            try simp only [Bool.and_false] at HHa
            try simp only [upB] at HHb
            try simp only [h1] at HHb
            try simp only [h2] at HHb
            try simp only [h3] at HHb
            try simp only [h4] at HHb
            try simp only [h5] at HHb
            try simp only [Bool.true_and] at HHb
            try simp only [Bool.false_and] at HHb
            try simp only [Bool.and_true] at HHb
            try simp only [Bool.and_false] at HHb
            try simp only [upB] at HC
            try simp only [h1] at HC
            try simp only [h2] at HC
            try simp only [h3] at HC
            try simp only [h4] at HC
            try simp only [h5] at HC
            try simp only [Bool.true_and] at HC
            try simp only [Bool.false_and] at HC
            try simp only [Bool.and_true] at HC
            try simp only [Bool.and_false] at HC
            go_enter Tryz.func33, Tryz.ntmps33
            go_wp2_with fail
            refine (HWa.out _).mono ?_
            rintro e w1 ⟨rfl, b1⟩
            replace hB := Lib.hid (hB.out.below b1)
            clear b1
            obtain ⟨_, c0, c1, c2, c3, c4, _⟩ := hB.out.b5
            obtain ⟨_, d0, d1, d2, d3, d4, _⟩ := hB.out.to1.b5
            go_wp2_with fail
            refine (HHa.out _).mono ?_
            rintro e w2 ⟨rfl, b2⟩
            replace hB := Lib.hid (hB.out.below b2)
            clear b2 c0 c1 c2 c3 c4 d0 d1 d2 d3 d4
            obtain ⟨_, c0, c1, c2, c3, c4, _⟩ := hB.out.b5
            obtain ⟨_, d0, d1, d2, d3, d4, _⟩ := hB.out.to1.b5
            go_wp2_with fail
            refine (HHb.out _).mono ?_
            rintro e w3 ⟨rfl, b3⟩
            replace hB := Lib.hid (hB.out.below b3)
            clear b3 c0 c1 c2 c3 c4 d0 d1 d2 d3 d4
            obtain ⟨_, c0, c1, c2, c3, c4, _⟩ := hB.out.b5
            obtain ⟨_, d0, d1, d2, d3, d4, _⟩ := hB.out.to1.b5
            go_wp2_with fail
            refine (HC.out _).mono ?_
            rintro e w4 ⟨rfl, b4⟩
            replace hB := Lib.hid (hB.out.below b4)
            clear b4 c0 c1 c2 c3 c4 d0 d1 d2 d3 d4
            obtain ⟨_, c0, c1, c2, c3, c4, _⟩ := hB.out.b5
            obtain ⟨_, d0, d1, d2, d3, d4, _⟩ := hB.out.to1.b5
            go_wp2_with fail
            go_ret
            exact ⟨rfl, hB.out.tail.tail.gold⟩
          | false =>
            have E := Lib.hid (show besideB ⟨aid, atxn, amode, awant, asince⟩ ⟨bid, btxn, bmode, bwant, bsince⟩ = true by simp [besideB, upB, h1, h2, h3, h4, h5])
            rw [E.out]
            clear E
            try simp only [upB] at HWa
            try simp only [h1] at HWa
            try simp only [h2] at HWa
            try simp only [h3] at HWa
            try simp only [h4] at HWa
            try simp only [h5] at HWa
            try simp only [Bool.true_and] at HWa
            try simp only [Bool.false_and] at HWa
            try simp only [Bool.and_true] at HWa
            try simp only [Bool.and_false] at HWa
            try simp only [upB] at HHa
            try simp only [h1] at HHa
            try simp only [h2] at HHa
            try simp only [h3] at HHa
            try simp only [h4] at HHa
            try simp only [h5] at HHa
            try simp only [Bool.true_and] at HHa
            try simp only [Bool.false_and] at HHa
            try simp only [Bool.and_true] at HHa
            try simp only [Bool.and_false] at HHa
            try simp only [upB] at HHb
            try simp only [h1] at HHb
            try simp only [h2] at HHb
            try simp only [h3] at HHb
            try simp only [h4] at HHb
            try simp only [h5] at HHb
            try simp only [Bool.true_and] at HHb
            try simp only [Bool.false_and] at HHb
            try simp only [Bool.and_true] at HHb
            try simp only [Bool.and_false] at HHb
            go_enter Tryz.func33, Tryz.ntmps33
            go_wp2_with fail
            refine (HWa.out _).mono ?_
            rintro e w1 ⟨rfl, b1⟩
            replace hB := Lib.hid (hB.out.below b1)
            clear b1
            obtain ⟨_, c0, c1, c2, c3, c4, _⟩ := hB.out.b5
            obtain ⟨_, d0, d1, d2, d3, d4, _⟩ := hB.out.to1.b5
            go_wp2_with fail
            refine (HHa.out _).mono ?_
            rintro e w2 ⟨rfl, b2⟩
            replace hB := Lib.hid (hB.out.below b2)
            clear b2 c0 c1 c2 c3 c4 d0 d1 d2 d3 d4
            obtain ⟨_, c0, c1, c2, c3, c4, _⟩ := hB.out.b5
            obtain ⟨_, d0, d1, d2, d3, d4, _⟩ := hB.out.to1.b5
            go_wp2_with fail
            refine (HHb.out _).mono ?_
            rintro e w3 ⟨rfl, b3⟩
            replace hB := Lib.hid (hB.out.below b3)
            clear b3 c0 c1 c2 c3 c4 d0 d1 d2 d3 d4
            obtain ⟨_, c0, c1, c2, c3, c4, _⟩ := hB.out.b5
            obtain ⟨_, d0, d1, d2, d3, d4, _⟩ := hB.out.to1.b5
            go_wp2_with fail
            refine (HHa.out _).mono ?_
            rintro e w4 ⟨rfl, b4⟩
            replace hB := Lib.hid (hB.out.below b4)
            clear b4 c0 c1 c2 c3 c4 d0 d1 d2 d3 d4
            obtain ⟨_, c0, c1, c2, c3, c4, _⟩ := hB.out.b5
            obtain ⟨_, d0, d1, d2, d3, d4, _⟩ := hB.out.to1.b5
            go_wp2_with fail
            go_ret
            exact ⟨rfl, hB.out.tail.tail.gold⟩
        | false =>
          cases h5 : bmode != 0 with
          | true =>
            have E := Lib.hid (show besideB ⟨aid, atxn, amode, awant, asince⟩ ⟨bid, btxn, bmode, bwant, bsince⟩ = false by simp [besideB, upB, h1, h2, h3, h4, h5])
            rw [E.out]
            clear E
            try simp only [upB] at HWa
            try simp only [h1] at HWa
            try simp only [h2] at HWa
            try simp only [h3] at HWa
            try simp only [h4] at HWa
            try simp only [h5] at HWa
            try simp only [Bool.true_and] at HWa
            try simp only [Bool.false_and] at HWa
            try simp only [Bool.and_true] at HWa
            try simp only [Bool.and_false] at HWa
            try simp only [upB] at HHa
            try simp only [h1] at HHa
            try simp only [h2] at HHa
            try simp only [h3] at HHa
            try simp only [h4] at HHa
            try simp only [h5] at HHa
            try simp only [Bool.true_and] at HHa
            try simp only [Bool.false_and] at HHa
            try simp only [Bool.and_true] at HHa
            try simp only [Bool.and_false] at HHa
            try simp only [upB] at HHb
            try simp only [h1] at HHb
            try simp only [h2] at HHb
            try simp only [h3] at HHb
            try simp only [h4] at HHb
            try simp only [h5] at HHb
            try simp only [Bool.true_and] at HHb
            try simp only [Bool.false_and] at HHb
            try simp only [Bool.and_true] at HHb
            try simp only [Bool.and_false] at HHb
            go_enter Tryz.func33, Tryz.ntmps33
            go_wp2_with fail
            refine (HWa.out _).mono ?_
            rintro e w1 ⟨rfl, b1⟩
            replace hB := Lib.hid (hB.out.below b1)
            clear b1
            obtain ⟨_, c0, c1, c2, c3, c4, _⟩ := hB.out.b5
            obtain ⟨_, d0, d1, d2, d3, d4, _⟩ := hB.out.to1.b5
            go_wp2_with fail
            refine (HHa.out _).mono ?_
            rintro e w2 ⟨rfl, b2⟩
            replace hB := Lib.hid (hB.out.below b2)
            clear b2 c0 c1 c2 c3 c4 d0 d1 d2 d3 d4
            obtain ⟨_, c0, c1, c2, c3, c4, _⟩ := hB.out.b5
            obtain ⟨_, d0, d1, d2, d3, d4, _⟩ := hB.out.to1.b5
            go_wp2_with fail
            refine (HHa.out _).mono ?_
            rintro e w3 ⟨rfl, b3⟩
            replace hB := Lib.hid (hB.out.below b3)
            clear b3 c0 c1 c2 c3 c4 d0 d1 d2 d3 d4
            obtain ⟨_, c0, c1, c2, c3, c4, _⟩ := hB.out.b5
            obtain ⟨_, d0, d1, d2, d3, d4, _⟩ := hB.out.to1.b5
            go_wp2_with fail
            refine (HHb.out _).mono ?_
            rintro e w4 ⟨rfl, b4⟩
            replace hB := Lib.hid (hB.out.below b4)
            clear b4 c0 c1 c2 c3 c4 d0 d1 d2 d3 d4
            obtain ⟨_, c0, c1, c2, c3, c4, _⟩ := hB.out.b5
            obtain ⟨_, d0, d1, d2, d3, d4, _⟩ := hB.out.to1.b5
            go_wp2_with fail
            go_ret
            exact ⟨rfl, hB.out.tail.tail.gold⟩
          | false =>
            have E := Lib.hid (show besideB ⟨aid, atxn, amode, awant, asince⟩ ⟨bid, btxn, bmode, bwant, bsince⟩ = decide (asince < bsince) by simp [besideB, upB, h1, h2, h3, h4, h5])
            rw [E.out]
            clear E
            try simp only [upB] at HWa
            try simp only [h1] at HWa
            try simp only [h2] at HWa
            try simp only [h3] at HWa
            try simp only [h4] at HWa
            try simp only [h5] at HWa
            try simp only [Bool.true_and] at HWa
            try simp only [Bool.false_and] at HWa
            try simp only [Bool.and_true] at HWa
            try simp only [Bool.and_false] at HWa
            try simp only [upB] at HHa
            try simp only [h1] at HHa
            try simp only [h2] at HHa
            try simp only [h3] at HHa
            try simp only [h4] at HHa
            try simp only [h5] at HHa
            try simp only [Bool.true_and] at HHa
            try simp only [Bool.false_and] at HHa
            try simp only [Bool.and_true] at HHa
            try simp only [Bool.and_false] at HHa
            try simp only [upB] at HHb
            try simp only [h1] at HHb
            try simp only [h2] at HHb
            try simp only [h3] at HHb
            try simp only [h4] at HHb
            try simp only [h5] at HHb
            try simp only [Bool.true_and] at HHb
            try simp only [Bool.false_and] at HHb
            try simp only [Bool.and_true] at HHb
            try simp only [Bool.and_false] at HHb
            go_enter Tryz.func33, Tryz.ntmps33
            go_wp2_with fail
            refine (HWa.out _).mono ?_
            rintro e w1 ⟨rfl, b1⟩
            replace hB := Lib.hid (hB.out.below b1)
            clear b1
            obtain ⟨_, c0, c1, c2, c3, c4, _⟩ := hB.out.b5
            obtain ⟨_, d0, d1, d2, d3, d4, _⟩ := hB.out.to1.b5
            go_wp2_with fail
            refine (HHa.out _).mono ?_
            rintro e w2 ⟨rfl, b2⟩
            replace hB := Lib.hid (hB.out.below b2)
            clear b2 c0 c1 c2 c3 c4 d0 d1 d2 d3 d4
            obtain ⟨_, c0, c1, c2, c3, c4, _⟩ := hB.out.b5
            obtain ⟨_, d0, d1, d2, d3, d4, _⟩ := hB.out.to1.b5
            go_wp2_with fail
            refine (HHa.out _).mono ?_
            rintro e w3 ⟨rfl, b3⟩
            replace hB := Lib.hid (hB.out.below b3)
            clear b3 c0 c1 c2 c3 c4 d0 d1 d2 d3 d4
            obtain ⟨_, c0, c1, c2, c3, c4, _⟩ := hB.out.b5
            obtain ⟨_, d0, d1, d2, d3, d4, _⟩ := hB.out.to1.b5
            go_wp2_with fail
            refine (HHb.out _).mono ?_
            rintro e w4 ⟨rfl, b4⟩
            replace hB := Lib.hid (hB.out.below b4)
            clear b4 c0 c1 c2 c3 c4 d0 d1 d2 d3 d4
            obtain ⟨_, c0, c1, c2, c3, c4, _⟩ := hB.out.b5
            obtain ⟨_, d0, d1, d2, d3, d4, _⟩ := hB.out.to1.b5
            go_wp2_with fail
            go_ret
            exact ⟨rfl, hB.out.tail.tail.gold⟩
set_option maxHeartbeats 1000000 in
theorem blocks_any (a b : Rq) (w : World) : Calls Tryz.prog 66 #[a.val, b.val] w fun e w' => e = .returned (.bool (blocksB a b)) ∧ Below w.heap.size w w' := by
  have HHa := Lib.hid (fun W => holds_any a W)
  have HHb := Lib.hid (fun W => holds_any b W)
  have HC := Lib.hid (fun W => compat_any a.mode b.want W)
  have HU := Lib.hid (fun W => upgrades_any a W)
  obtain ⟨aid, atxn, amode, awant, asince⟩ := a
  obtain ⟨bid, btxn, bmode, bwant, bsince⟩ := b
  have hB := Lib.hid (boxes2 w 42 42 #[.int .i64 aid, .int .i64 atxn, .int .i64 amode, .int .i64 awant, .int .i64 asince] #[.int .i64 bid, .int .i64 btxn, .int .i64 bmode, .int .i64 bwant, .int .i64 bsince])
  unfold Rq.val at *
  simp only at *
  cases h1 : aid == bid with
  | true =>
    have E := Lib.hid (show blocksB ⟨aid, atxn, amode, awant, asince⟩ ⟨bid, btxn, bmode, bwant, bsince⟩ = false by simp [blocksB, upB, h1])
    rw [E.out]
    clear E
    go_enter Tryz.func66, Tryz.ntmps66
    go_wp2_with fail
    go_ret
    exact ⟨rfl, hB.out.tail.tail.gold⟩
  | false =>
    cases h2 : amode != 0 with
    | true =>
      cases h3 : comB amode bwant with
      | true =>
        cases h4 : decide (0 < asince) with
        | true =>
          cases h5 : bmode != 0 with
          | true =>
            have E := Lib.hid (show blocksB ⟨aid, atxn, amode, awant, asince⟩ ⟨bid, btxn, bmode, bwant, bsince⟩ = decide (asince < bsince) by simp [blocksB, upB, h1, h2, h3, h4, h5])
            rw [E.out]
            clear E
            try simp only [upB] at HHa
            try simp only [h1] at HHa
            try simp only [h2] at HHa
            try simp only [h3] at HHa
            try simp only [h4] at HHa
            try simp only [h5] at HHa
            try simp only [Bool.true_and] at HHa
            try simp only [Bool.false_and] at HHa
            try simp only [Bool.and_true] at HHa
            try simp only [Bool.and_false] at HHa
            try simp only [upB] at HC
            try simp only [h1] at HC
            try simp only [h2] at HC
            try simp only [h3] at HC
            try simp only [h4] at HC
            try simp only [h5] at HC
            try simp only [Bool.true_and] at HC
            try simp only [Bool.false_and] at HC
            try simp only [Bool.and_true] at HC
            try simp only [Bool.and_false] at HC
            try simp only [upB] at HU
            try simp only [h1] at HU
            try simp only [h2] at HU
            try simp only [h3] at HU
            try simp only [h4] at HU
            try simp only [h5] at HU
            try simp only [Bool.true_and] at HU
            try simp only [Bool.false_and] at HU
            try simp only [Bool.and_true] at HU
            try simp only [Bool.and_false] at HU
            try simp only [upB] at HHb
            try simp only [h1] at HHb
            try simp only [h2] at HHb
            try simp only [h3] at HHb
            try simp only [h4] at HHb
            try simp only [h5] at HHb
            try simp only [Bool.true_and] at HHb
            try simp only [Bool.false_and] at HHb
            try simp only [Bool.and_true] at HHb
            try simp only [Bool.and_false] at HHb
            go_enter Tryz.func66, Tryz.ntmps66
            go_wp2_with fail
            refine (HHa.out _).mono ?_
            rintro e w1 ⟨rfl, b1⟩
            replace hB := Lib.hid (hB.out.below b1)
            clear b1
            obtain ⟨_, c0, c1, c2, c3, c4, _⟩ := hB.out.b5
            obtain ⟨_, d0, d1, d2, d3, d4, _⟩ := hB.out.to1.b5
            go_wp2_with fail
            refine (HC.out _).mono ?_
            rintro e w2 ⟨rfl, b2⟩
            replace hB := Lib.hid (hB.out.below b2)
            clear b2 c0 c1 c2 c3 c4 d0 d1 d2 d3 d4
            obtain ⟨_, c0, c1, c2, c3, c4, _⟩ := hB.out.b5
            obtain ⟨_, d0, d1, d2, d3, d4, _⟩ := hB.out.to1.b5
            go_wp2_with fail
            refine (HU.out _).mono ?_
            rintro e w3 ⟨rfl, b3⟩
            replace hB := Lib.hid (hB.out.below b3)
            clear b3 c0 c1 c2 c3 c4 d0 d1 d2 d3 d4
            obtain ⟨_, c0, c1, c2, c3, c4, _⟩ := hB.out.b5
            obtain ⟨_, d0, d1, d2, d3, d4, _⟩ := hB.out.to1.b5
            go_wp2_with fail
            refine (HHb.out _).mono ?_
            rintro e w4 ⟨rfl, b4⟩
            replace hB := Lib.hid (hB.out.below b4)
            clear b4 c0 c1 c2 c3 c4 d0 d1 d2 d3 d4
            obtain ⟨_, c0, c1, c2, c3, c4, _⟩ := hB.out.b5
            obtain ⟨_, d0, d1, d2, d3, d4, _⟩ := hB.out.to1.b5
            go_wp2_with fail
            go_ret
            exact ⟨rfl, hB.out.tail.tail.gold⟩
          | false =>
            have E := Lib.hid (show blocksB ⟨aid, atxn, amode, awant, asince⟩ ⟨bid, btxn, bmode, bwant, bsince⟩ = true by simp [blocksB, upB, h1, h2, h3, h4, h5])
            rw [E.out]
            clear E
            try simp only [upB] at HHa
            try simp only [h1] at HHa
            try simp only [h2] at HHa
            try simp only [h3] at HHa
            try simp only [h4] at HHa
            try simp only [h5] at HHa
            try simp only [Bool.true_and] at HHa
            try simp only [Bool.false_and] at HHa
            try simp only [Bool.and_true] at HHa
            try simp only [Bool.and_false] at HHa
            try simp only [upB] at HC
            try simp only [h1] at HC
            try simp only [h2] at HC
            try simp only [h3] at HC
            try simp only [h4] at HC
            try simp only [h5] at HC
            try simp only [Bool.true_and] at HC
            try simp only [Bool.false_and] at HC
            try simp only [Bool.and_true] at HC
            try simp only [Bool.and_false] at HC
            try simp only [upB] at HU
            try simp only [h1] at HU
            try simp only [h2] at HU
            try simp only [h3] at HU
            try simp only [h4] at HU
            try simp only [h5] at HU
            try simp only [Bool.true_and] at HU
            try simp only [Bool.false_and] at HU
            try simp only [Bool.and_true] at HU
            try simp only [Bool.and_false] at HU
            try simp only [upB] at HHb
            try simp only [h1] at HHb
            try simp only [h2] at HHb
            try simp only [h3] at HHb
            try simp only [h4] at HHb
            try simp only [h5] at HHb
            try simp only [Bool.true_and] at HHb
            try simp only [Bool.false_and] at HHb
            try simp only [Bool.and_true] at HHb
            try simp only [Bool.and_false] at HHb
            go_enter Tryz.func66, Tryz.ntmps66
            go_wp2_with fail
            refine (HHa.out _).mono ?_
            rintro e w1 ⟨rfl, b1⟩
            replace hB := Lib.hid (hB.out.below b1)
            clear b1
            obtain ⟨_, c0, c1, c2, c3, c4, _⟩ := hB.out.b5
            obtain ⟨_, d0, d1, d2, d3, d4, _⟩ := hB.out.to1.b5
            go_wp2_with fail
            refine (HC.out _).mono ?_
            rintro e w2 ⟨rfl, b2⟩
            replace hB := Lib.hid (hB.out.below b2)
            clear b2 c0 c1 c2 c3 c4 d0 d1 d2 d3 d4
            obtain ⟨_, c0, c1, c2, c3, c4, _⟩ := hB.out.b5
            obtain ⟨_, d0, d1, d2, d3, d4, _⟩ := hB.out.to1.b5
            go_wp2_with fail
            refine (HU.out _).mono ?_
            rintro e w3 ⟨rfl, b3⟩
            replace hB := Lib.hid (hB.out.below b3)
            clear b3 c0 c1 c2 c3 c4 d0 d1 d2 d3 d4
            obtain ⟨_, c0, c1, c2, c3, c4, _⟩ := hB.out.b5
            obtain ⟨_, d0, d1, d2, d3, d4, _⟩ := hB.out.to1.b5
            go_wp2_with fail
            refine (HHb.out _).mono ?_
            rintro e w4 ⟨rfl, b4⟩
            replace hB := Lib.hid (hB.out.below b4)
            clear b4 c0 c1 c2 c3 c4 d0 d1 d2 d3 d4
            obtain ⟨_, c0, c1, c2, c3, c4, _⟩ := hB.out.b5
            obtain ⟨_, d0, d1, d2, d3, d4, _⟩ := hB.out.to1.b5
            go_wp2_with fail
            go_ret
            exact ⟨rfl, hB.out.tail.tail.gold⟩
        | false =>
          cases h5 : bmode != 0 with
          | true =>
            have E := Lib.hid (show blocksB ⟨aid, atxn, amode, awant, asince⟩ ⟨bid, btxn, bmode, bwant, bsince⟩ = false by simp [blocksB, upB, h1, h2, h3, h4, h5])
            rw [E.out]
            clear E
            try simp only [upB] at HHa
            try simp only [h1] at HHa
            try simp only [h2] at HHa
            try simp only [h3] at HHa
            try simp only [h4] at HHa
            try simp only [h5] at HHa
            try simp only [Bool.true_and] at HHa
            try simp only [Bool.false_and] at HHa
            try simp only [Bool.and_true] at HHa
            try simp only [Bool.and_false] at HHa
            try simp only [upB] at HC
            try simp only [h1] at HC
            try simp only [h2] at HC
            try simp only [h3] at HC
            try simp only [h4] at HC
            try simp only [h5] at HC
            try simp only [Bool.true_and] at HC
            try simp only [Bool.false_and] at HC
            try simp only [Bool.and_true] at HC
            try simp only [Bool.and_false] at HC
            try simp only [upB] at HU
            try simp only [h1] at HU
            try simp only [h2] at HU
            try simp only [h3] at HU
            try simp only [h4] at HU
            try simp only [h5] at HU
            try simp only [Bool.true_and] at HU
            try simp only [Bool.false_and] at HU
            try simp only [Bool.and_true] at HU
            try simp only [Bool.and_false] at HU
            try simp only [upB] at HHb
            try simp only [h1] at HHb
            try simp only [h2] at HHb
            try simp only [h3] at HHb
            try simp only [h4] at HHb
            try simp only [h5] at HHb
            try simp only [Bool.true_and] at HHb
            try simp only [Bool.false_and] at HHb
            try simp only [Bool.and_true] at HHb
            try simp only [Bool.and_false] at HHb
            go_enter Tryz.func66, Tryz.ntmps66
            go_wp2_with fail
            refine (HHa.out _).mono ?_
            rintro e w1 ⟨rfl, b1⟩
            replace hB := Lib.hid (hB.out.below b1)
            clear b1
            obtain ⟨_, c0, c1, c2, c3, c4, _⟩ := hB.out.b5
            obtain ⟨_, d0, d1, d2, d3, d4, _⟩ := hB.out.to1.b5
            go_wp2_with fail
            refine (HC.out _).mono ?_
            rintro e w2 ⟨rfl, b2⟩
            replace hB := Lib.hid (hB.out.below b2)
            clear b2 c0 c1 c2 c3 c4 d0 d1 d2 d3 d4
            obtain ⟨_, c0, c1, c2, c3, c4, _⟩ := hB.out.b5
            obtain ⟨_, d0, d1, d2, d3, d4, _⟩ := hB.out.to1.b5
            go_wp2_with fail
            refine (HU.out _).mono ?_
            rintro e w3 ⟨rfl, b3⟩
            replace hB := Lib.hid (hB.out.below b3)
            clear b3 c0 c1 c2 c3 c4 d0 d1 d2 d3 d4
            obtain ⟨_, c0, c1, c2, c3, c4, _⟩ := hB.out.b5
            obtain ⟨_, d0, d1, d2, d3, d4, _⟩ := hB.out.to1.b5
            go_wp2_with fail
            refine (HHb.out _).mono ?_
            rintro e w4 ⟨rfl, b4⟩
            replace hB := Lib.hid (hB.out.below b4)
            clear b4 c0 c1 c2 c3 c4 d0 d1 d2 d3 d4
            obtain ⟨_, c0, c1, c2, c3, c4, _⟩ := hB.out.b5
            obtain ⟨_, d0, d1, d2, d3, d4, _⟩ := hB.out.to1.b5
            go_wp2_with fail
            go_ret
            exact ⟨rfl, hB.out.tail.tail.gold⟩
          | false =>
            have E := Lib.hid (show blocksB ⟨aid, atxn, amode, awant, asince⟩ ⟨bid, btxn, bmode, bwant, bsince⟩ = false by simp [blocksB, upB, h1, h2, h3, h4, h5])
            rw [E.out]
            clear E
            try simp only [upB] at HHa
            try simp only [h1] at HHa
            try simp only [h2] at HHa
            try simp only [h3] at HHa
            try simp only [h4] at HHa
            try simp only [h5] at HHa
            try simp only [Bool.true_and] at HHa
            try simp only [Bool.false_and] at HHa
            try simp only [Bool.and_true] at HHa
            try simp only [Bool.and_false] at HHa
            try simp only [upB] at HC
            try simp only [h1] at HC
            try simp only [h2] at HC
            try simp only [h3] at HC
            try simp only [h4] at HC
            try simp only [h5] at HC
            try simp only [Bool.true_and] at HC
            try simp only [Bool.false_and] at HC
            try simp only [Bool.and_true] at HC
            try simp only [Bool.and_false] at HC
            try simp only [upB] at HU
            try simp only [h1] at HU
            try simp only [h2] at HU
            try simp only [h3] at HU
            try simp only [h4] at HU
            try simp only [h5] at HU
            try simp only [Bool.true_and] at HU
            try simp only [Bool.false_and] at HU
            try simp only [Bool.and_true] at HU
            try simp only [Bool.and_false] at HU
            try simp only [upB] at HHb
            try simp only [h1] at HHb
            try simp only [h2] at HHb
            try simp only [h3] at HHb
            try simp only [h4] at HHb
            try simp only [h5] at HHb
            try simp only [Bool.true_and] at HHb
            try simp only [Bool.false_and] at HHb
            try simp only [Bool.and_true] at HHb
            try simp only [Bool.and_false] at HHb
            go_enter Tryz.func66, Tryz.ntmps66
            go_wp2_with fail
            refine (HHa.out _).mono ?_
            rintro e w1 ⟨rfl, b1⟩
            replace hB := Lib.hid (hB.out.below b1)
            clear b1
            obtain ⟨_, c0, c1, c2, c3, c4, _⟩ := hB.out.b5
            obtain ⟨_, d0, d1, d2, d3, d4, _⟩ := hB.out.to1.b5
            go_wp2_with fail
            refine (HC.out _).mono ?_
            rintro e w2 ⟨rfl, b2⟩
            replace hB := Lib.hid (hB.out.below b2)
            clear b2 c0 c1 c2 c3 c4 d0 d1 d2 d3 d4
            obtain ⟨_, c0, c1, c2, c3, c4, _⟩ := hB.out.b5
            obtain ⟨_, d0, d1, d2, d3, d4, _⟩ := hB.out.to1.b5
            go_wp2_with fail
            refine (HU.out _).mono ?_
            rintro e w3 ⟨rfl, b3⟩
            replace hB := Lib.hid (hB.out.below b3)
            clear b3 c0 c1 c2 c3 c4 d0 d1 d2 d3 d4
            obtain ⟨_, c0, c1, c2, c3, c4, _⟩ := hB.out.b5
            obtain ⟨_, d0, d1, d2, d3, d4, _⟩ := hB.out.to1.b5
            go_wp2_with fail
            refine (HHb.out _).mono ?_
            rintro e w4 ⟨rfl, b4⟩
            replace hB := Lib.hid (hB.out.below b4)
            clear b4 c0 c1 c2 c3 c4 d0 d1 d2 d3 d4
            obtain ⟨_, c0, c1, c2, c3, c4, _⟩ := hB.out.b5
            obtain ⟨_, d0, d1, d2, d3, d4, _⟩ := hB.out.to1.b5
            go_wp2_with fail
            refine (HHa.out _).mono ?_
            rintro e w5 ⟨rfl, b5⟩
            replace hB := Lib.hid (hB.out.below b5)
            clear b5 c0 c1 c2 c3 c4 d0 d1 d2 d3 d4
            obtain ⟨_, c0, c1, c2, c3, c4, _⟩ := hB.out.b5
            obtain ⟨_, d0, d1, d2, d3, d4, _⟩ := hB.out.to1.b5
            go_wp2_with fail
            go_ret
            exact ⟨rfl, hB.out.tail.tail.gold⟩
      | false =>
        have E := Lib.hid (show blocksB ⟨aid, atxn, amode, awant, asince⟩ ⟨bid, btxn, bmode, bwant, bsince⟩ = true by simp [blocksB, upB, h1, h2, h3])
        rw [E.out]
        clear E
        try simp only [upB] at HHa
        try simp only [h1] at HHa
        try simp only [h2] at HHa
        try simp only [h3] at HHa
        try simp only [Bool.true_and] at HHa
        try simp only [Bool.false_and] at HHa
        try simp only [Bool.and_true] at HHa
        try simp only [Bool.and_false] at HHa
        try simp only [upB] at HC
        try simp only [h1] at HC
        try simp only [h2] at HC
        try simp only [h3] at HC
        try simp only [Bool.true_and] at HC
        try simp only [Bool.false_and] at HC
        try simp only [Bool.and_true] at HC
        try simp only [Bool.and_false] at HC
        go_enter Tryz.func66, Tryz.ntmps66
        go_wp2_with fail
        refine (HHa.out _).mono ?_
        rintro e w1 ⟨rfl, b1⟩
        replace hB := Lib.hid (hB.out.below b1)
        clear b1
        obtain ⟨_, c0, c1, c2, c3, c4, _⟩ := hB.out.b5
        obtain ⟨_, d0, d1, d2, d3, d4, _⟩ := hB.out.to1.b5
        go_wp2_with fail
        refine (HC.out _).mono ?_
        rintro e w2 ⟨rfl, b2⟩
        replace hB := Lib.hid (hB.out.below b2)
        clear b2 c0 c1 c2 c3 c4 d0 d1 d2 d3 d4
        obtain ⟨_, c0, c1, c2, c3, c4, _⟩ := hB.out.b5
        obtain ⟨_, d0, d1, d2, d3, d4, _⟩ := hB.out.to1.b5
        go_wp2_with fail
        go_ret
        exact ⟨rfl, hB.out.tail.tail.gold⟩
    | false =>
      cases h3 : bmode != 0 with
      | true =>
        have E := Lib.hid (show blocksB ⟨aid, atxn, amode, awant, asince⟩ ⟨bid, btxn, bmode, bwant, bsince⟩ = false by simp [blocksB, upB, h1, h2, h3])
        rw [E.out]
        clear E
        try simp only [upB] at HHa
        try simp only [h1] at HHa
        try simp only [h2] at HHa
        try simp only [h3] at HHa
        try simp only [Bool.true_and] at HHa
        try simp only [Bool.false_and] at HHa
        try simp only [Bool.and_true] at HHa
        try simp only [Bool.and_false] at HHa
        try simp only [upB] at HU
        try simp only [h1] at HU
        try simp only [h2] at HU
        try simp only [h3] at HU
        try simp only [Bool.true_and] at HU
        try simp only [Bool.false_and] at HU
        try simp only [Bool.and_true] at HU
        try simp only [Bool.and_false] at HU
        try simp only [upB] at HHb
        try simp only [h1] at HHb
        try simp only [h2] at HHb
        try simp only [h3] at HHb
        try simp only [Bool.true_and] at HHb
        try simp only [Bool.false_and] at HHb
        try simp only [Bool.and_true] at HHb
        try simp only [Bool.and_false] at HHb
        go_enter Tryz.func66, Tryz.ntmps66
        go_wp2_with fail
        refine (HHa.out _).mono ?_
        rintro e w1 ⟨rfl, b1⟩
        replace hB := Lib.hid (hB.out.below b1)
        clear b1
        obtain ⟨_, c0, c1, c2, c3, c4, _⟩ := hB.out.b5
        obtain ⟨_, d0, d1, d2, d3, d4, _⟩ := hB.out.to1.b5
        go_wp2_with fail
        refine (HU.out _).mono ?_
        rintro e w2 ⟨rfl, b2⟩
        replace hB := Lib.hid (hB.out.below b2)
        clear b2 c0 c1 c2 c3 c4 d0 d1 d2 d3 d4
        obtain ⟨_, c0, c1, c2, c3, c4, _⟩ := hB.out.b5
        obtain ⟨_, d0, d1, d2, d3, d4, _⟩ := hB.out.to1.b5
        go_wp2_with fail
        refine (HHb.out _).mono ?_
        rintro e w3 ⟨rfl, b3⟩
        replace hB := Lib.hid (hB.out.below b3)
        clear b3 c0 c1 c2 c3 c4 d0 d1 d2 d3 d4
        obtain ⟨_, c0, c1, c2, c3, c4, _⟩ := hB.out.b5
        obtain ⟨_, d0, d1, d2, d3, d4, _⟩ := hB.out.to1.b5
        go_wp2_with fail
        go_ret
        exact ⟨rfl, hB.out.tail.tail.gold⟩
      | false =>
        have E := Lib.hid (show blocksB ⟨aid, atxn, amode, awant, asince⟩ ⟨bid, btxn, bmode, bwant, bsince⟩ = decide (asince < bsince) by simp [blocksB, upB, h1, h2, h3])
        rw [E.out]
        clear E
        try simp only [upB] at HHa
        try simp only [h1] at HHa
        try simp only [h2] at HHa
        try simp only [h3] at HHa
        try simp only [Bool.true_and] at HHa
        try simp only [Bool.false_and] at HHa
        try simp only [Bool.and_true] at HHa
        try simp only [Bool.and_false] at HHa
        try simp only [upB] at HU
        try simp only [h1] at HU
        try simp only [h2] at HU
        try simp only [h3] at HU
        try simp only [Bool.true_and] at HU
        try simp only [Bool.false_and] at HU
        try simp only [Bool.and_true] at HU
        try simp only [Bool.and_false] at HU
        try simp only [upB] at HHb
        try simp only [h1] at HHb
        try simp only [h2] at HHb
        try simp only [h3] at HHb
        try simp only [Bool.true_and] at HHb
        try simp only [Bool.false_and] at HHb
        try simp only [Bool.and_true] at HHb
        try simp only [Bool.and_false] at HHb
        go_enter Tryz.func66, Tryz.ntmps66
        go_wp2_with fail
        refine (HHa.out _).mono ?_
        rintro e w1 ⟨rfl, b1⟩
        replace hB := Lib.hid (hB.out.below b1)
        clear b1
        obtain ⟨_, c0, c1, c2, c3, c4, _⟩ := hB.out.b5
        obtain ⟨_, d0, d1, d2, d3, d4, _⟩ := hB.out.to1.b5
        go_wp2_with fail
        refine (HU.out _).mono ?_
        rintro e w2 ⟨rfl, b2⟩
        replace hB := Lib.hid (hB.out.below b2)
        clear b2 c0 c1 c2 c3 c4 d0 d1 d2 d3 d4
        obtain ⟨_, c0, c1, c2, c3, c4, _⟩ := hB.out.b5
        obtain ⟨_, d0, d1, d2, d3, d4, _⟩ := hB.out.to1.b5
        go_wp2_with fail
        refine (HHb.out _).mono ?_
        rintro e w3 ⟨rfl, b3⟩
        replace hB := Lib.hid (hB.out.below b3)
        clear b3 c0 c1 c2 c3 c4 d0 d1 d2 d3 d4
        obtain ⟨_, c0, c1, c2, c3, c4, _⟩ := hB.out.b5
        obtain ⟨_, d0, d1, d2, d3, d4, _⟩ := hB.out.to1.b5
        go_wp2_with fail
        refine (HHa.out _).mono ?_
        rintro e w4 ⟨rfl, b4⟩
        replace hB := Lib.hid (hB.out.below b4)
        clear b4 c0 c1 c2 c3 c4 d0 d1 d2 d3 d4
        obtain ⟨_, c0, c1, c2, c3, c4, _⟩ := hB.out.b5
        obtain ⟨_, d0, d1, d2, d3, d4, _⟩ := hB.out.to1.b5
        go_wp2_with fail
        go_ret
        exact ⟨rfl, hB.out.tail.tail.gold⟩
theorem RQ.take {w : World} {b off m c k : Nat} {l : List Rq} (h : RQ w (.slice (some ⟨b, off, none⟩) m c) l) (hl : l.length = m) (hk : k ≤ m) : RQ w (.slice (some ⟨b, off, none⟩) k c) (l.take k) := by
  obtain ⟨a, c', hv, hc, hna, hr⟩ := h
  injection hv with e1 e2 e3
  subst e1 e3
  have hlk : (l.take k).length = k := by rw [List.length_take]; omega
  refine ⟨some ⟨b, off, none⟩, c, by rw [hlk], by rw [hlk]; omega, (fun h => by cases h), fun h0 => ?_⟩
  rw [hlk] at h0
  obtain ⟨b', off', ha, hlt, hz⟩ := hr (by omega)
  refine ⟨b', off', ha, hlt, fun j hj => ?_⟩
  rw [hlk] at hj
  have := hz j (by omega)
  rw [show (l.take k).getD j default = l.getD j default by simp [List.getD, List.getElem?_take, hj]]
  exact this
theorem eg_check : ∀ args w, (callFunc 32 args).run Tryz.prog w = .ok (.enter 32 args) w := enters_of Tryz.func32 (by kernel_rfl) rfl
theorem chk1 (r : Rq) (B : Nat) (w : World) (hB : B < w.heap.size) (h0 : w.cell? ⟨B, 0, none⟩ = some (.int .i64 r.id)) (h1 : w.cell? ⟨B, 1, none⟩ = some (.int .i64 r.txn)) (h2 : w.cell? ⟨B, 2, none⟩ = some (.int .i64 r.mode)) (h3 : w.cell? ⟨B, 3, none⟩ = some (.int .i64 r.want)) (h4 : w.cell? ⟨B, 4, none⟩ = some (.int .i64 r.since)) :
    PredQ 32 #[.pointer (some ⟨B, 0, none⟩)] (fun a => !besideB a r) w := fun W a hb => by
  have c0 := (hb.cell (p := ⟨B, 0, none⟩) hB).trans h0
  have c1 := (hb.cell (p := ⟨B, 1, none⟩) hB).trans h1
  have c2 := (hb.cell (p := ⟨B, 2, none⟩) hB).trans h2
  have c3 := (hb.cell (p := ⟨B, 3, none⟩) hB).trans h3
  have c4 := (hb.cell (p := ⟨B, 4, none⟩) hB).trans h4
  have hs := hb.size
  have hl := Nat.lt_of_lt_of_le hB hs
  have HX := Lib.hid (fun W => beside_any a r W)
  have hS := Lib.hid ((Sep.start W).alloc a.cells.toArray 42)
  show Calls Tryz.prog _ (#[a.val] ++ _) W fun e w' => e = .returned (.bool (!besideB a r)) ∧ Below W.heap.size W w'
  generalize besideB a r = x at *
  obtain ⟨id, txn, mode, want, since⟩ := a
  obtain ⟨rid, rtxn, rmode, rwant, rsince⟩ := r
  unfold Rq.val at HX
  unfold Rq.val
  simp only [Rq.cells] at hS
  simp only at c0 c1 c2 c3 c4 HX ⊢
  show Calls Tryz.prog 32 #[.agg #[.int .i64 id, .int .i64 txn, .int .i64 mode, .int .i64 want, .int .i64 since], .pointer (some ⟨B, 0, none⟩)] W _
  clear hb h0 h1 h2 h3 h4
  go_enter Tryz.func32, Tryz.ntmps32
  go_wp2_with fail
  refine (HX.out _).mono ?_
  rintro e w1 ⟨rfl, b1⟩
  replace b1 := Lib.hid (belA _ b1)
  go_wp2_with fail
  go_ret
  exact ⟨by first | rfl | simp, b1.out⟩
def okPB (n : Int) (l : List Rq) (i : Nat) : Bool := rightB (l.getD i default) n && !((l.take i).any fun a => !besideB a (l.getD i default))
def checkPB (n : Int) (l : List Rq) : Bool := decide (0 ≤ n) && (decide (n ≤ 4611686018427387904) && (List.range l.length).all (okPB n l))
theorem checkPB_bad (n : Int) (l : List Rq) (i : Nat) (hi : i < l.length) (h : okPB n l i = false) : checkPB n l = false := by
  have : (List.range l.length).all (okPB n l) = false := by
    rw [List.all_eq_false]
    exact ⟨i, List.mem_range.2 hi, by simp [h]⟩
  simp [checkPB, this]
theorem checkPB_good (n : Int) (l : List Rq) (h0 : ¬ n < 0) (h1 : ¬ 4611686018427387904 < n) (h : ∀ i, i < l.length → okPB n l i = true) : checkPB n l = true := by
  have : (List.range l.length).all (okPB n l) = true := by
    rw [List.all_eq_true]
    intro i hi
    exact h i (List.mem_range.1 hi)
  simp [checkPB, this]; omega
set_option maxHeartbeats 2000000 in
theorem checkP_any (t r n : Int) (v : Value) (l : List Rq) (w : World) (hv : RQ w v l) (hl : l.length ≤ 1000) :
    Calls Tryz.prog 6 #[hval t r v n] w fun e w' => e = .returned (.int .i64 (if checkPB n l = true then 0 else 2)) ∧ Below w.heap.size w w' := by
  have h0 : ∀ b0, Sep (w.alloc (.cells b0 26)) [blk w.heap.size 26 b0, old w] := fun b0 => (Sep.start w).alloc b0 26
  replace h0 := Lib.hid h0
  have HT := Lib.hid (fun W (hb : Below w.heap.size w W) => hv.below hb)
  obtain ⟨a, c, rfl, hlc, _, hr⟩ := hv
  replace hr := Lib.hid hr
  have hS := Lib.hid (h0.out #[.int .i64 t, .int .i64 r, .slice a l.length c, .int .i64 n])
  unfold hval
  by_cases hn0 : n < 0
  · rw [show checkPB n l = false by simp [checkPB, hn0]; omega]
    have d0 : decide (n < 0) = true := decide_eq_true hn0
    clear h0 HT hr
    go_enter Tryz.func6, Tryz.ntmps6
    go_wp2_with fail
    go_ret
    exact ⟨rfl, hS.out.tail.gold⟩
  by_cases hn1 : 4611686018427387904 < n
  · rw [show checkPB n l = false by simp [checkPB, hn1]; omega]
    have d0 : decide (n < 0) = false := decide_eq_false hn0
    have d1 : decide (4611686018427387904 < n) = true := decide_eq_true hn1
    clear h0 HT hr
    go_enter Tryz.func6, Tryz.ntmps6
    go_wp2_with fail
    go_ret
    exact ⟨rfl, hS.out.tail.gold⟩
  have d0 : decide (n < 0) = false := decide_eq_false hn0
  have d1 : decide (4611686018427387904 < n) = false := decide_eq_false hn1
  have hbad := Lib.hid (fun i hi h => checkPB_bad n l i hi h)
  have hgood := Lib.hid (fun h => checkPB_good n l hn0 hn1 h)
  obtain ⟨R, hRe⟩ : ∃ R : Int, (if checkPB n l = true then 0 else 2) = R := ⟨_, rfl⟩
  rw [hRe]
  replace hRe := Lib.hid hRe
  have eg := eg_check
  clear h0 hn0 hn1
  generalize hm : l.length = m at *
  replace hm := Lib.hid hm
  go_enter Tryz.func6, Tryz.ntmps6
  go_wp2_with fail
  go_loopw [17] (fun x wr => ∃ k : Nat, k ≤ m ∧ x = .int .i64 k ∧ Hid (∀ j, j < k → okPB n l j = true) ∧ Hid (Sep wr [blk w.heap.size 26 #[.int .i64 t, .int .i64 r, .slice a m c, .int .i64 n], old w])) (fun x _ => m - (intOf x).toNat)
  case atStart => exact ⟨0, Nat.zero_le _, rfl, Lib.hid (fun j hj => absurd hj (by omega)), hS⟩
  case round =>
    clear hS
    obtain ⟨k, hk, rfl, hok, hS⟩ := hrel
    by_cases hlt : k < m
    · obtain ⟨b, off, rfl, hbl, hz⟩ := hr.out (by have := hm.out; omega)
      obtain ⟨z0, z1, z2, z3, z4⟩ := hz k (by have := hm.out; omega)
      have kk : ∀ o, wr.cell? ⟨b, o, none⟩ = w.cell? ⟨b, o, none⟩ := fun o => hS.out.to1.gold.cell (p := ⟨b, o, none⟩) hbl
      rw [← kk] at z0 z1 z2 z3 z4
      have HR := Lib.hid (fun W => rightP_any (l.getD k default) n W)
      have hS2 := hS.out.alloc (l.getD k default).cells.toArray 42
      have hC := Lib.hid (fun W hW h0 h1 h2 h3 h4 hRQ => contains_any (.slice (some ⟨b, off, none⟩) k c) (l.take k) 32 #[.pointer (some ⟨wr.heap.size, 0, none⟩)] (fun a => !besideB a (l.getD k default)) W hRQ (by rw [List.length_take]; have := hm.out; omega) (chk1 (l.getD k default) wr.heap.size W hW h0 h1 h2 h3 h4) eg_check)
      have hokk := Lib.hid (show okPB n l k = (rightB (l.getD k default) n && !((l.take k).any fun a => !besideB a (l.getD k default))) from rfl)
      generalize l.getD k default = q at *
      generalize hany : ((l.take k).any fun a => !besideB a q) = an at *
      replace hany := Lib.hid hany
      generalize hright : rightB q n = ri at *
      replace hright := Lib.hid hright
      obtain ⟨id, txn, mode, want, since⟩ := q
      simp only [Rq.val] at HR z0 z1 z2 z3 z4
      simp only [Rq.cells] at hS2
      obtain ⟨_, p0, p1, p2, p3, p4, _⟩ := hS2.b5
      obtain ⟨_, d2, d3, d4, d5, _⟩ := hS2.to1.b4
      replace hS2 := Lib.hid (show Sep _ [blk wr.heap.size 42 #[.int .i64 id, .int .i64 txn, .int .i64 mode, .int .i64 want, .int .i64 since], _, _] from hS2)
      have i1 : (0 : Int) ≤ (k : Int) := by omega
      have i2 : (k : Int) < (m : Int) := by omega
      have i3 : (k : Int) ≤ (c : Int) := by omega
      clear kk hz
      cases ri with
      | false =>
        go_wp2_with fail
        refine (HR.out _).mono ?_
        rintro e w1 ⟨rfl, b1⟩
        replace hS2 := Lib.hid (hS2.out.below b1)
        have hf := hbad.out k (by have := hm.out; omega) (by rw [hokk.out]; rfl)
        have hR2 : R = 2 := by rw [← hRe.out, hf]; rfl
        subst hR2
        clear b1 hf p0 p1 p2 p3 p4 d2 d3 d4 d5
        go_wp2_with fail
        go_ret
        exact ⟨rfl, hS2.out.tail.tail.gold⟩
      | true =>
        go_wp2_with fail
        refine (HR.out _).mono ?_
        rintro e w1 ⟨rfl, b1⟩
        replace hS2 := Lib.hid (hS2.out.below b1)
        clear b1 p0 p1 p2 p3 p4 d2 d3 d4 d5
        obtain ⟨_, p0, p1, p2, p3, p4, _⟩ := hS2.out.b5
        obtain ⟨_, d2, d3, d4, d5, _⟩ := hS2.out.to1.b4
        have HC := Lib.hid (hC.out w1 hS2.out.gblk.lt p0 p1 p2 p3 p4 ((HT.out _ hS2.out.to2.gold).take hm.out (by omega)))
        clear hC
        go_wp2_with fail
        refine HC.out.mono ?_
        rintro e w2 ⟨rfl, b2⟩
        replace hS2 := Lib.hid (hS2.out.below b2)
        clear b2 HC p0 p1 p2 p3 p4 d2 d3 d4 d5
        cases an with
        | true =>
          have hf := hbad.out k (by have := hm.out; omega) (by rw [hokk.out]; rfl)
          have hR2 : R = 2 := by rw [← hRe.out, hf]; rfl
          subst hR2
          clear hf
          go_wp2_with fail
          go_ret
          exact ⟨rfl, hS2.out.tail.tail.gold⟩
        | false =>
          have hok2 : Hid (∀ j, j < k + 1 → okPB n l j = true) := Lib.hid fun j hj => by
            by_cases hjk : j = k
            · subst hjk; rw [hokk.out]; rfl
            · exact hok.out j (by omega)
          go_wp2_with fail
          go_roundw
          case rel => exact ⟨k + 1, by omega, by go_num, hok2, Lib.hid hS2.out.tail⟩
          case measure => simp [intOf]; omega
    · have hk2 : k = m := by omega
      have hf := hgood.out (fun i hi => hok.out i (by have := hm.out; omega))
      have hR0 : R = 0 := by rw [← hRe.out, hf]; rfl
      subst hR0
      clear hf
      go_wp2_with fail
      go_ret
      exact ⟨rfl, hS.out.tail.gold⟩
theorem besideB_iff (a b : Rq) (ha : a.mode = 0 → 0 < a.since) : besideB a b = true ↔ PP a b := by
  unfold besideB PP
  by_cases h1 : a.id = b.id
  · simp [h1]
  by_cases h2 : a.txn = b.txn
  · simp [h2]
  by_cases h3 : 0 < a.since <;> by_cases h4 : a.since = b.since <;> by_cases h5 : a.mode = 0 <;> by_cases h6 : b.mode = 0 <;> simp [h1, h2, h3, h4, h5, h6] <;> first | omega | (have := ha h5; omega) | skip
theorem checkPB_eq (n : Int) (l : List Rq) : checkPB n l = checkB n l := by
  have key : ∀ n l, checkPB n l = true ↔ Ord n l := by
    intro n l
    constructor
    · intro h
      unfold checkPB at h
      simp only [Bool.and_eq_true, decide_eq_true_eq] at h
      obtain ⟨h0, h1, h2⟩ := h
      have hok : ∀ i, i < l.length → okPB n l i = true := fun i hi => List.all_eq_true.1 h2 i (List.mem_range.2 hi)
      have hr : ∀ i, i < l.length → PR (l.getD i default) n := fun i hi => by
        have := hok i hi
        unfold okPB at this
        simp only [Bool.and_eq_true] at this
        exact (rightB_iff _ _).1 this.1
      refine ⟨h0, h1, fun r hr2 => ?_, fun k i hk hi => ?_⟩
      · obtain ⟨i, hi, rfl⟩ := mem_getD hr2
        exact hr i hi
      · have := hok i hi
        unfold okPB at this
        simp only [Bool.and_eq_true, Bool.not_eq_true', List.any_eq_false] at this
        have h3 := this.2 (l.getD k default) (by
          have : l.getD k default = (l.take i).getD k default := by simp [List.getD, List.getElem?_take, hk]
          rw [this]
          exact getD_mem _ _ (by rw [List.length_take]; omega))
        have hPk := hr k (by omega)
        refine (besideB_iff _ _ (fun hm => ?_)).1 (by simpa using h3)
        rcases Int.lt_or_le 0 (l.getD k default).since with h | h
        · exact h
        · exact absurd hm (hPk.2.2.2.2.2.2 (by omega)).1
    · intro h
      refine checkPB_good n l (by have := h.lo; omega) (by have := h.hi; omega) fun i hi => ?_
      unfold okPB
      rw [(rightB_iff _ _).2 (h.right _ (getD_mem l i hi))]
      simp only [Bool.true_and, Bool.not_eq_true', List.any_eq_false]
      intro a ha
      obtain ⟨k, hk, rfl⟩ := mem_getD ha
      rw [List.length_take] at hk
      have hkg : (l.take i).getD k default = l.getD k default := by simp [List.getD, List.getElem?_take, show k < i by omega]
      rw [hkg]
      have hPk := h.right _ (getD_mem l k (by omega))
      have := (besideB_iff (l.getD k default) (l.getD i default) (fun hm => by
        rcases Int.lt_or_le 0 (l.getD k default).since with h | h
        · exact h
        · exact absurd hm (hPk.2.2.2.2.2.2 (by omega)).1)).2 (h.pair k i (by omega) hi)
      rw [this]
      decide
  cases h1 : checkPB n l with
  | true => exact ((ord_iff n l).2 ((key n l).1 h1)).symm
  | false =>
    cases h2 : checkB n l with
    | false => rfl
    | true => rw [(key n l).2 ((ord_iff n l).1 h2)] at h1; cases h1
end Go.Proofs.YtmacpjnkmkaloaaGreat
