/-
  Contracts and plain laws that the walk leans on, part 11. No condition.
-/
import Derived.Test.YthbamhfnemdebaaGreatZVc10
namespace Go.Proofs.YthbamhfnemdebaaGreat
open Go.RowKit
def blocksB (a b : Rq) : Bool := if a.id == b.id then false else if a.mode != 0 && !comB a.mode b.want then true else if upB a then (!(b.mode != 0) || decide (a.since < b.since)) else (!(b.mode != 0) && (!(a.mode != 0) && decide (a.since < b.since)))
set_option maxHeartbeats 1000000 in
theorem blocks_any (a b : Rq) (w : World) : Calls Tryz.prog 62 #[a.val, b.val] w fun e w' => e = .returned (.bool (blocksB a b)) ∧ Below w.heap.size w w' := by
  have HHa := Lib.hid (fun W => holds_any a W)
  have HHb := Lib.hid (fun W => holds_any b W)
  have HC := Lib.hid (fun W => compat_any a.mode b.want W)
  have HU := Lib.hid (fun W => upgrades_any a W)
  obtain ⟨aid, atxn, amode, awant, asince⟩ := a
  obtain ⟨bid, btxn, bmode, bwant, bsince⟩ := b
  have hB := Lib.hid (boxes2 w 58 58 #[.int .i64 aid, .int .i64 atxn, .int .i64 amode, .int .i64 awant, .int .i64 asince] #[.int .i64 bid, .int .i64 btxn, .int .i64 bmode, .int .i64 bwant, .int .i64 bsince])
  unfold Rq.val at *
  simp only at *
  cases h1 : aid == bid with
  | true =>
    have E := Lib.hid (show blocksB ⟨aid, atxn, amode, awant, asince⟩ ⟨bid, btxn, bmode, bwant, bsince⟩ = false by simp [blocksB, upB, h1])
    rw [E.out]
    clear E
    go_enter Tryz.func62, Tryz.ntmps62
    go_wp2_with fail
    go_ret
    exact ⟨rfl, hB.out.tail.tail.gold⟩
  | false =>
    cases h2 : amode != 0 with
    | true =>
      cases h3 : comB amode bwant with
      | true =>
        cases h4 : decide (0 < asince) with
        | true =>
          cases h5 : bmode != 0 with
          | true =>
            have E := Lib.hid (show blocksB ⟨aid, atxn, amode, awant, asince⟩ ⟨bid, btxn, bmode, bwant, bsince⟩ = decide (asince < bsince) by simp [blocksB, upB, h1, h2, h3, h4, h5])
            rw [E.out]
            clear E
            try simp only [upB] at HHa
            try simp only [h1] at HHa
            try simp only [h2] at HHa
            try simp only [h3] at HHa
            try simp only [h4] at HHa
            try simp only [h5] at HHa
            try simp only [Bool.true_and] at HHa
            try simp only [Bool.false_and] at HHa
            try simp only [Bool.and_true] at HHa
            try simp only [Bool.and_false] at HHa
            try simp only [upB] at HC
            try simp only [h1] at HC
            try simp only [h2] at HC
            try simp only [h3] at HC
            try simp only [h4] at HC
            try simp only [h5] at HC
            try simp only [Bool.true_and] at HC
            try simp only [Bool.false_and] at HC
            try simp only [Bool.and_true] at HC
            try simp only [Bool.and_false] at HC
            try simp only [upB] at HU
            try simp only [h1] at HU
            try simp only [h2] at HU
            try simp only [h3] at HU
            try simp only [h4] at HU
            try simp only [h5] at HU
            try simp only [Bool.true_and] at HU
            try simp only [Bool.false_and] at HU
            try simp only [Bool.and_true] at HU
            try simp only [Bool.and_false] at HU
            try simp only [upB] at HHb
            try simp only [h1] at HHb
            try simp only [h2] at HHb
            try simp only [h3] at HHb
            try simp only [h4] at HHb
            try simp only [h5] at HHb
            try simp only [Bool.true_and] at HHb
            try simp only [Bool.false_and] at HHb
            try simp only [Bool.and_true] at HHb
            try simp only [Bool.and_false] at HHb
            go_enter Tryz.func62, Tryz.ntmps62
            go_wp2_with fail
            refine (HHa.out _).mono ?_
            rintro e w1 ⟨rfl, b1⟩
            replace hB := Lib.hid (hB.out.below b1)
            clear b1
            obtain ⟨_, c0, c1, c2, c3, c4, _⟩ := hB.out.b5
            obtain ⟨_, d0, d1, d2, d3, d4, _⟩ := hB.out.to1.b5
            go_wp2_with fail
            refine (HC.out _).mono ?_
            rintro e w2 ⟨rfl, b2⟩
            replace hB := Lib.hid (hB.out.below b2)
            clear b2 c0 c1 c2 c3 c4 d0 d1 d2 d3 d4
            obtain ⟨_, c0, c1, c2, c3, c4, _⟩ := hB.out.b5
            obtain ⟨_, d0, d1, d2, d3, d4, _⟩ := hB.out.to1.b5
            go_wp2_with fail
            refine (HU.out _).mono ?_
            rintro e w3 ⟨rfl, b3⟩
            replace hB := Lib.hid (hB.out.below b3)
            clear b3 c0 c1 c2 c3 c4 d0 d1 d2 d3 d4
            obtain ⟨_, c0, c1, c2, c3, c4, _⟩ := hB.out.b5
            obtain ⟨_, d0, d1, d2, d3, d4, _⟩ := hB.out.to1.b5
            go_wp2_with fail
            refine (HHb.out _).mono ?_
            rintro e w4 ⟨rfl, b4⟩
            replace hB := Lib.hid (hB.out.below b4)
            clear b4 c0 c1 c2 c3 c4 d0 d1 d2 d3 d4
            obtain ⟨_, c0, c1, c2, c3, c4, _⟩ := hB.out.b5
            obtain ⟨_, d0, d1, d2, d3, d4, _⟩ := hB.out.to1.b5
            go_wp2_with fail
            go_ret
            exact ⟨rfl, hB.out.tail.tail.gold⟩
          | false =>
            have E := Lib.hid (show blocksB ⟨aid, atxn, amode, awant, asince⟩ ⟨bid, btxn, bmode, bwant, bsince⟩ = true by simp [blocksB, upB, h1, h2, h3, h4, h5])
            rw [E.out]
            clear E
            try simp only [upB] at HHa
            try simp only [h1] at HHa
            try simp only [h2] at HHa
            try simp only [h3] at HHa
            try simp only [h4] at HHa
            try simp only [h5] at HHa
            try simp only [Bool.true_and] at HHa
            try simp only [Bool.false_and] at HHa
            try simp only [Bool.and_true] at HHa
            try simp only [Bool.and_false] at HHa
            try simp only [upB] at HC
            try simp only [h1] at HC
            try simp only [h2] at HC
            try simp only [h3] at HC
            try simp only [h4] at HC
            try simp only [h5] at HC
            try simp only [Bool.true_and] at HC
            try simp only [Bool.false_and] at HC
            try simp only [Bool.and_true] at HC
            try simp only [Bool.and_false] at HC
            try simp only [upB] at HU
            try simp only [h1] at HU
            try simp only [h2] at HU
            try simp only [h3] at HU
            try simp only [h4] at HU
            try simp only [h5] at HU
            try simp only [Bool.true_and] at HU
            try simp only [Bool.false_and] at HU
            try simp only [Bool.and_true] at HU
            try simp only [Bool.and_false] at HU
            try simp only [upB] at HHb
            try simp only [h1] at HHb
            try simp only [h2] at HHb
            try simp only [h3] at HHb
            try simp only [h4] at HHb
            try simp only [h5] at HHb
            try simp only [Bool.true_and] at HHb
            try simp only [Bool.false_and] at HHb
            try simp only [Bool.and_true] at HHb
            try simp only [Bool.and_false] at HHb
            go_enter Tryz.func62, Tryz.ntmps62
            go_wp2_with fail
            refine (HHa.out _).mono ?_
            rintro e w1 ⟨rfl, b1⟩
            replace hB := Lib.hid (hB.out.below b1)
            clear b1
            obtain ⟨_, c0, c1, c2, c3, c4, _⟩ := hB.out.b5
            obtain ⟨_, d0, d1, d2, d3, d4, _⟩ := hB.out.to1.b5
            go_wp2_with fail
            refine (HC.out _).mono ?_
            rintro e w2 ⟨rfl, b2⟩
            replace hB := Lib.hid (hB.out.below b2)
            clear b2 c0 c1 c2 c3 c4 d0 d1 d2 d3 d4
            obtain ⟨_, c0, c1, c2, c3, c4, _⟩ := hB.out.b5
            obtain ⟨_, d0, d1, d2, d3, d4, _⟩ := hB.out.to1.b5
            go_wp2_with fail
            refine (HU.out _).mono ?_
            rintro e w3 ⟨rfl, b3⟩
            replace hB := Lib.hid (hB.out.below b3)
            clear b3 c0 c1 c2 c3 c4 d0 d1 d2 d3 d4
            obtain ⟨_, c0, c1, c2, c3, c4, _⟩ := hB.out.b5
            obtain ⟨_, d0, d1, d2, d3, d4, _⟩ := hB.out.to1.b5
            go_wp2_with fail
            refine (HHb.out _).mono ?_
            rintro e w4 ⟨rfl, b4⟩
            replace hB := Lib.hid (hB.out.below b4)
            clear b4 c0 c1 c2 c3 c4 d0 d1 d2 d3 d4
            obtain ⟨_, c0, c1, c2, c3, c4, _⟩ := hB.out.b5
            obtain ⟨_, d0, d1, d2, d3, d4, _⟩ := hB.out.to1.b5
            go_wp2_with fail
            go_ret
            exact ⟨rfl, hB.out.tail.tail.gold⟩
        | false =>
          cases h5 : bmode != 0 with
          | true =>
            have E := Lib.hid (show blocksB ⟨aid, atxn, amode, awant, asince⟩ ⟨bid, btxn, bmode, bwant, bsince⟩ = false by simp [blocksB, upB, h1, h2, h3, h4, h5])
            rw [E.out]
            clear E
            try simp only [upB] at HHa
            try simp only [h1] at HHa
            try simp only [h2] at HHa
            try simp only [h3] at HHa
            try simp only [h4] at HHa
            try simp only [h5] at HHa
            try simp only [Bool.true_and] at HHa
            try simp only [Bool.false_and] at HHa
            try simp only [Bool.and_true] at HHa
            try simp only [Bool.and_false] at HHa
            try simp only [upB] at HC
            try simp only [h1] at HC
            try simp only [h2] at HC
            try simp only [h3] at HC
            try simp only [h4] at HC
            try simp only [h5] at HC
            try simp only [Bool.true_and] at HC
            try simp only [Bool.false_and] at HC
            try simp only [Bool.and_true] at HC
            try simp only [Bool.and_false] at HC
            try simp only [upB] at HU
            try simp only [h1] at HU
            try simp only [h2] at HU
            try simp only [h3] at HU
            try simp only [h4] at HU
            try simp only [h5] at HU
            try simp only [Bool.true_and] at HU
            try simp only [Bool.false_and] at HU
            try simp only [Bool.and_true] at HU
            try simp only [Bool.and_false] at HU
            try simp only [upB] at HHb
            try simp only [h1] at HHb
            try simp only [h2] at HHb
            try simp only [h3] at HHb
            try simp only [h4] at HHb
            try simp only [h5] at HHb
            try simp only [Bool.true_and] at HHb
            try simp only [Bool.false_and] at HHb
            try simp only [Bool.and_true] at HHb
            try simp only [Bool.and_false] at HHb
            go_enter Tryz.func62, Tryz.ntmps62
            go_wp2_with fail
            refine (HHa.out _).mono ?_
            rintro e w1 ⟨rfl, b1⟩
            replace hB := Lib.hid (hB.out.below b1)
            clear b1
            obtain ⟨_, c0, c1, c2, c3, c4, _⟩ := hB.out.b5
            obtain ⟨_, d0, d1, d2, d3, d4, _⟩ := hB.out.to1.b5
            go_wp2_with fail
            refine (HC.out _).mono ?_
            rintro e w2 ⟨rfl, b2⟩
            replace hB := Lib.hid (hB.out.below b2)
            clear b2 c0 c1 c2 c3 c4 d0 d1 d2 d3 d4
            obtain ⟨_, c0, c1, c2, c3, c4, _⟩ := hB.out.b5
            obtain ⟨_, d0, d1, d2, d3, d4, _⟩ := hB.out.to1.b5
            go_wp2_with fail
            refine (HU.out _).mono ?_
            rintro e w3 ⟨rfl, b3⟩
            replace hB := Lib.hid (hB.out.below b3)
            clear b3 c0 c1 c2 c3 c4 d0 d1 d2 d3 d4
            obtain ⟨_, c0, c1, c2, c3, c4, _⟩ := hB.out.b5
            obtain ⟨_, d0, d1, d2, d3, d4, _⟩ := hB.out.to1.b5
            go_wp2_with fail
            refine (HHb.out _).mono ?_
            rintro e w4 ⟨rfl, b4⟩
            replace hB := Lib.hid (hB.out.below b4)
            clear b4 c0 c1 c2 c3 c4 d0 d1 d2 d3 d4
            obtain ⟨_, c0, c1, c2, c3, c4, _⟩ := hB.out.b5
            obtain ⟨_, d0, d1, d2, d3, d4, _⟩ := hB.out.to1.b5
            go_wp2_with fail
            go_ret
            exact ⟨rfl, hB.out.tail.tail.gold⟩
          | false =>
            have E := Lib.hid (show blocksB ⟨aid, atxn, amode, awant, asince⟩ ⟨bid, btxn, bmode, bwant, bsince⟩ = false by simp [blocksB, upB, h1, h2, h3, h4, h5])
            rw [E.out]
            clear E
            try simp only [upB] at HHa
            try simp only [h1] at HHa
            try simp only [h2] at HHa
            try simp only [h3] at HHa
            try simp only [h4] at HHa
            try simp only [h5] at HHa
            try simp only [Bool.true_and] at HHa
            try simp only [Bool.false_and] at HHa
            try simp only [Bool.and_true] at HHa
            try simp only [Bool.and_false] at HHa
            try simp only [upB] at HC
            try simp only [h1] at HC
            try simp only [h2] at HC
            try simp only [h3] at HC
            try simp only [h4] at HC
            try simp only [h5] at HC
            try simp only [Bool.true_and] at HC
            try simp only [Bool.false_and] at HC
            try simp only [Bool.and_true] at HC
            try simp only [Bool.and_false] at HC
            try simp only [upB] at HU
            try simp only [h1] at HU
            try simp only [h2] at HU
            try simp only [h3] at HU
            try simp only [h4] at HU
            try simp only [h5] at HU
            try simp only [Bool.true_and] at HU
            try simp only [Bool.false_and] at HU
            try simp only [Bool.and_true] at HU
            try simp only [Bool.and_false] at HU
            try simp only [upB] at HHb
            try simp only [h1] at HHb
            try simp only [h2] at HHb
            try simp only [h3] at HHb
            try simp only [h4] at HHb
            try simp only [h5] at HHb
            try simp only [Bool.true_and] at HHb
            try simp only [Bool.false_and] at HHb
            try simp only [Bool.and_true] at HHb
            try simp only [Bool.and_false] at HHb
            go_enter Tryz.func62, Tryz.ntmps62
            go_wp2_with fail
            refine (HHa.out _).mono ?_
            rintro e w1 ⟨rfl, b1⟩
            replace hB := Lib.hid (hB.out.below b1)
            clear b1
            obtain ⟨_, c0, c1, c2, c3, c4, _⟩ := hB.out.b5
            obtain ⟨_, d0, d1, d2, d3, d4, _⟩ := hB.out.to1.b5
            go_wp2_with fail
            refine (HC.out _).mono ?_
            rintro e w2 ⟨rfl, b2⟩
            replace hB := Lib.hid (hB.out.below b2)
            clear b2 c0 c1 c2 c3 c4 d0 d1 d2 d3 d4
            obtain ⟨_, c0, c1, c2, c3, c4, _⟩ := hB.out.b5
            obtain ⟨_, d0, d1, d2, d3, d4, _⟩ := hB.out.to1.b5
            go_wp2_with fail
            refine (HU.out _).mono ?_
            rintro e w3 ⟨rfl, b3⟩
            replace hB := Lib.hid (hB.out.below b3)
            clear b3 c0 c1 c2 c3 c4 d0 d1 d2 d3 d4
            obtain ⟨_, c0, c1, c2, c3, c4, _⟩ := hB.out.b5
            obtain ⟨_, d0, d1, d2, d3, d4, _⟩ := hB.out.to1.b5
            go_wp2_with fail
            refine (HHb.out _).mono ?_
            rintro e w4 ⟨rfl, b4⟩
            replace hB := Lib.hid (hB.out.below b4)
            clear b4 c0 c1 c2 c3 c4 d0 d1 d2 d3 d4
            obtain ⟨_, c0, c1, c2, c3, c4, _⟩ := hB.out.b5
            obtain ⟨_, d0, d1, d2, d3, d4, _⟩ := hB.out.to1.b5
            go_wp2_with fail
            refine (HHa.out _).mono ?_
            rintro e w5 ⟨rfl, b5⟩
            replace hB := Lib.hid (hB.out.below b5)
            clear b5 c0 c1 c2 c3 c4 d0 d1 d2 d3 d4
            obtain ⟨_, c0, c1, c2, c3, c4, _⟩ := hB.out.b5
            obtain ⟨_, d0, d1, d2, d3, d4, _⟩ := hB.out.to1.b5
            go_wp2_with fail
            go_ret
            exact ⟨rfl, hB.out.tail.tail.gold⟩
      | false =>
        have E := Lib.hid (show blocksB ⟨aid, atxn, amode, awant, asince⟩ ⟨bid, btxn, bmode, bwant, bsince⟩ = true by simp [blocksB, upB, h1, h2, h3])
        rw [E.out]
        clear E
        try simp only [upB] at HHa
        try simp only [h1] at HHa
        try simp only [h2] at HHa
        try simp only [h3] at HHa
        try simp only [Bool.true_and] at HHa
        try simp only [Bool.false_and] at HHa
        try simp only [Bool.and_true] at HHa
        try simp only [Bool.and_false] at HHa
        try simp only [upB] at HC
        try simp only [h1] at HC
        try simp only [h2] at HC
        try simp only [h3] at HC
        try simp only [Bool.true_and] at HC
        try simp only [Bool.false_and] at HC
        try simp only [Bool.and_true] at HC
        try simp only [Bool.and_false] at HC
        go_enter Tryz.func62, Tryz.ntmps62
        go_wp2_with fail
        refine (HHa.out _).mono ?_
        rintro e w1 ⟨rfl, b1⟩
        replace hB := Lib.hid (hB.out.below b1)
        clear b1
        obtain ⟨_, c0, c1, c2, c3, c4, _⟩ := hB.out.b5
        obtain ⟨_, d0, d1, d2, d3, d4, _⟩ := hB.out.to1.b5
        go_wp2_with fail
        refine (HC.out _).mono ?_
        rintro e w2 ⟨rfl, b2⟩
        replace hB := Lib.hid (hB.out.below b2)
        clear b2 c0 c1 c2 c3 c4 d0 d1 d2 d3 d4
        obtain ⟨_, c0, c1, c2, c3, c4, _⟩ := hB.out.b5
        obtain ⟨_, d0, d1, d2, d3, d4, _⟩ := hB.out.to1.b5
        go_wp2_with fail
        go_ret
        exact ⟨rfl, hB.out.tail.tail.gold⟩
    | false =>
      cases h3 : bmode != 0 with
      | true =>
        have E := Lib.hid (show blocksB ⟨aid, atxn, amode, awant, asince⟩ ⟨bid, btxn, bmode, bwant, bsince⟩ = false by simp [blocksB, upB, h1, h2, h3])
        rw [E.out]
        clear E
        try simp only [upB] at HHa
        try simp only [h1] at HHa
        try simp only [h2] at HHa
        try simp only [h3] at HHa
        try simp only [Bool.true_and] at HHa
        try simp only [Bool.false_and] at HHa
        try simp only [Bool.and_true] at HHa
        try simp only [Bool.and_false] at HHa
        try simp only [upB] at HU
        try simp only [h1] at HU
        try simp only [h2] at HU
        try simp only [h3] at HU
        try simp only [Bool.true_and] at HU
        try simp only [Bool.false_and] at HU
        try simp only [Bool.and_true] at HU
        try simp only [Bool.and_false] at HU
        try simp only [upB] at HHb
        try simp only [h1] at HHb
        try simp only [h2] at HHb
        try simp only [h3] at HHb
        try simp only [Bool.true_and] at HHb
        try simp only [Bool.false_and] at HHb
        try simp only [Bool.and_true] at HHb
        try simp only [Bool.and_false] at HHb
        go_enter Tryz.func62, Tryz.ntmps62
        go_wp2_with fail
        refine (HHa.out _).mono ?_
        rintro e w1 ⟨rfl, b1⟩
        replace hB := Lib.hid (hB.out.below b1)
        clear b1
        obtain ⟨_, c0, c1, c2, c3, c4, _⟩ := hB.out.b5
        obtain ⟨_, d0, d1, d2, d3, d4, _⟩ := hB.out.to1.b5
        go_wp2_with fail
        refine (HU.out _).mono ?_
        rintro e w2 ⟨rfl, b2⟩
        replace hB := Lib.hid (hB.out.below b2)
        clear b2 c0 c1 c2 c3 c4 d0 d1 d2 d3 d4
        obtain ⟨_, c0, c1, c2, c3, c4, _⟩ := hB.out.b5
        obtain ⟨_, d0, d1, d2, d3, d4, _⟩ := hB.out.to1.b5
        go_wp2_with fail
        refine (HHb.out _).mono ?_
        rintro e w3 ⟨rfl, b3⟩
        replace hB := Lib.hid (hB.out.below b3)
        clear b3 c0 c1 c2 c3 c4 d0 d1 d2 d3 d4
        obtain ⟨_, c0, c1, c2, c3, c4, _⟩ := hB.out.b5
        obtain ⟨_, d0, d1, d2, d3, d4, _⟩ := hB.out.to1.b5
        go_wp2_with fail
        go_ret
        exact ⟨rfl, hB.out.tail.tail.gold⟩
      | false =>
        have E := Lib.hid (show blocksB ⟨aid, atxn, amode, awant, asince⟩ ⟨bid, btxn, bmode, bwant, bsince⟩ = decide (asince < bsince) by simp [blocksB, upB, h1, h2, h3])
        rw [E.out]
        clear E
        try simp only [upB] at HHa
        try simp only [h1] at HHa
        try simp only [h2] at HHa
        try simp only [h3] at HHa
        try simp only [Bool.true_and] at HHa
        try simp only [Bool.false_and] at HHa
        try simp only [Bool.and_true] at HHa
        try simp only [Bool.and_false] at HHa
        try simp only [upB] at HU
        try simp only [h1] at HU
        try simp only [h2] at HU
        try simp only [h3] at HU
        try simp only [Bool.true_and] at HU
        try simp only [Bool.false_and] at HU
        try simp only [Bool.and_true] at HU
        try simp only [Bool.and_false] at HU
        try simp only [upB] at HHb
        try simp only [h1] at HHb
        try simp only [h2] at HHb
        try simp only [h3] at HHb
        try simp only [Bool.true_and] at HHb
        try simp only [Bool.false_and] at HHb
        try simp only [Bool.and_true] at HHb
        try simp only [Bool.and_false] at HHb
        go_enter Tryz.func62, Tryz.ntmps62
        go_wp2_with fail
        refine (HHa.out _).mono ?_
        rintro e w1 ⟨rfl, b1⟩
        replace hB := Lib.hid (hB.out.below b1)
        clear b1
        obtain ⟨_, c0, c1, c2, c3, c4, _⟩ := hB.out.b5
        obtain ⟨_, d0, d1, d2, d3, d4, _⟩ := hB.out.to1.b5
        go_wp2_with fail
        refine (HU.out _).mono ?_
        rintro e w2 ⟨rfl, b2⟩
        replace hB := Lib.hid (hB.out.below b2)
        clear b2 c0 c1 c2 c3 c4 d0 d1 d2 d3 d4
        obtain ⟨_, c0, c1, c2, c3, c4, _⟩ := hB.out.b5
        obtain ⟨_, d0, d1, d2, d3, d4, _⟩ := hB.out.to1.b5
        go_wp2_with fail
        refine (HHb.out _).mono ?_
        rintro e w3 ⟨rfl, b3⟩
        replace hB := Lib.hid (hB.out.below b3)
        clear b3 c0 c1 c2 c3 c4 d0 d1 d2 d3 d4
        obtain ⟨_, c0, c1, c2, c3, c4, _⟩ := hB.out.b5
        obtain ⟨_, d0, d1, d2, d3, d4, _⟩ := hB.out.to1.b5
        go_wp2_with fail
        refine (HHa.out _).mono ?_
        rintro e w4 ⟨rfl, b4⟩
        replace hB := Lib.hid (hB.out.below b4)
        clear b4 c0 c1 c2 c3 c4 d0 d1 d2 d3 d4
        obtain ⟨_, c0, c1, c2, c3, c4, _⟩ := hB.out.b5
        obtain ⟨_, d0, d1, d2, d3, d4, _⟩ := hB.out.to1.b5
        go_wp2_with fail
        go_ret
        exact ⟨rfl, hB.out.tail.tail.gold⟩
theorem RQ.take {w : World} {b off m c k : Nat} {l : List Rq} (h : RQ w (.slice (some ⟨b, off, none⟩) m c) l) (hl : l.length = m) (hk : k ≤ m) : RQ w (.slice (some ⟨b, off, none⟩) k c) (l.take k) := by
  obtain ⟨a, c', hv, hc, hna, hr⟩ := h
  injection hv with e1 e2 e3
  subst e1 e3
  have hlk : (l.take k).length = k := by rw [List.length_take]; omega
  refine ⟨some ⟨b, off, none⟩, c, by rw [hlk], by rw [hlk]; omega, (fun h => by cases h), fun h0 => ?_⟩
  rw [hlk] at h0
  obtain ⟨b', off', ha, hlt, hz⟩ := hr (by omega)
  refine ⟨b', off', ha, hlt, fun j hj => ?_⟩
  rw [hlk] at hj
  have := hz j (by omega)
  rw [show (l.take k).getD j default = l.getD j default by simp [List.getD, List.getElem?_take, hj]]
  exact this
end Go.Proofs.YthbamhfnemdebaaGreat
namespace Go.Proofs.YthbamhfnemdebaaGreat
open Go.RowKit
theorem compactInts_any (a : Option Addr) (n c : Nat) (xs : List Int) (w : World) (rs : List Res) (hS : Sep w (vec 3 1 (.slice a n c) n (xs.map (Value.int .i64)) :: rs)) (hl : xs.length = n) (hn : n ≤ 1000000) :
    Calls Tryz.prog 64 #[.slice a n c] w fun e w' => e = .returned (.slice a (Lib.compact xs).length c) ∧ Sep w' (vec 3 1 (.slice a (Lib.compact xs).length c) (Lib.compact xs).length ((Lib.compact xs).map (Value.int .i64)) :: rs) := by
  rcases Nat.eq_zero_or_pos n with h0 | h0
  · subst h0
    have hx := List.eq_nil_of_length_eq_zero hl
    subst hx
    refine (Any.slices_Compact_int_empty Tryz.compactInts a c w).mono ?_
    rintro e w' ⟨rfl, rfl⟩
    exact ⟨rfl, hS⟩
  · obtain ⟨g, rfl⟩ : ∃ g, a = some ⟨g, 0, none⟩ := by
      rcases hS.gvec.2 with ⟨_, h1⟩ | ⟨g, cap, cur, hv, _⟩
      · omega
      · injection hv with e1 _ _
        exact ⟨g, e1⟩
    obtain ⟨hH, hg⟩ := hS.vec_holds1 (Value.int .i64) xs hl
    obtain ⟨_, _, hnc, hcm, _⟩ := hS.vec_blk
    have hcl : (Lib.compact xs).length ≤ xs.length := by
      unfold Lib.compact Lib.compactUpTo
      rw [List.length_map]
      exact Nat.le_trans (List.length_filter_le _ _) (by simp)
    have hcon := Any.slices_Compact_int Tryz.compactInts g 0 c xs w hH (by omega) (by omega)
    subst hl
    refine Calls.mono (show Calls Tryz.prog 64 _ w _ from hcon) ?_
    rintro e w' ⟨rfl, q, rfl⟩
    refine ⟨rfl, ?_⟩
    have h2 := hS.vec_row (Value.int .i64) q (Lib.compact xs ++ List.replicate (xs.length - (Lib.compact xs).length) 0).toArray #[] (by simp; omega)
    rw [Go.Sort.grow_empty] at h2
    have h3 := h2.vec_shrink hcl
    have e : ((Lib.compact xs ++ List.replicate (xs.length - (Lib.compact xs).length) 0).toArray.toList.map (Value.int .i64)).take ((Lib.compact xs).length * 1) = (Lib.compact xs).map (Value.int .i64) := by
      rw [Nat.mul_one, List.toList_toArray, List.map_append, List.take_left' (by simp)]
    rw [e] at h3
    exact h3
theorem info_intE : (Tryz.prog.info? 3).map (fun i => (i.zero, i.size, i.bytes)) = some (some (.int .i64 0), 1, 8) := by kernel_rfl
/-- Who stands in the way of q, in the order of the queue; sorted, each once. -/
def blkL (l : List Rq) (q : Rq) : List Int := (l.filter fun o => blocksB o q).map (·.txn)
theorem blkL_snoc (l : List Rq) (q : Rq) (k : Nat) (h : k < l.length) : blkL (l.take (k + 1)) q = blkL (l.take k) q ++ (if blocksB (l.getD k default) q then [(l.getD k default).txn] else []) := by
  unfold blkL
  rw [take_snocQ l k h, List.filter_append, List.map_append]
  congr 1
  generalize l.getD k default = o
  cases hb : blocksB o q <;> simp [hb]
theorem blkL_len (l : List Rq) (q : Rq) : (blkL l q).length ≤ l.length := by
  unfold blkL
  rw [List.length_map]
  exact List.length_filter_le _ _
def nrm (xs : List Int) : List Int := Lib.compact (xs.mergeSort fun a b => decide (a ≤ b))
def blkV (l : List Rq) (id : Int) : List Int := if plc l id < 0 then [] else if 0 < (l.getD (plc l id).toNat default).since then nrm (blkL l (l.getD (plc l id).toNat default)) else []
theorem sorted_eq {xs ys : List Int} (hp : ys.Perm xs) (hs : ys.Pairwise (· ≤ ·)) : ys = xs.mergeSort fun a b => decide (a ≤ b) := by
  refine List.Perm.eq_of_pairwise (le := (· ≤ ·)) (fun a b _ _ h1 h2 => Int.le_antisymm h1 h2) hs ?_ (hp.trans (List.mergeSort_perm xs _).symm)
  have := List.pairwise_mergeSort (le := fun a b : Int => decide (a ≤ b)) (fun a b c h1 h2 => by simp at *; omega) (fun a b => by simp; omega) xs
  exact this.imp (fun {a b} h => by simpa using h)
set_option maxHeartbeats 1000000 in
theorem blockers_none (t r n : Int) (v : Value) (l : List Rq) (id0 : Int) (w : World) (hv : RQ w v l) (hl : l.length ≤ 1000) (hi : plc l id0 = -1) :
    Calls Tryz.prog 49 #[hval t r v n, .int .i64 id0] w fun e w' => e = .returned (.slice none 0 0) ∧ Below w.heap.size w w' := by
  have h0 := Lib.hid (fun b0 => (Sep.start w).alloc b0 43)
  have HF := Lib.hid (fun W hb => find_none t r n v l id0 W (hv.below hb) hl hi)
  obtain ⟨a, c, rfl, _⟩ := hv
  unfold hval Rq.val at *
  go_enter Tryz.func49, Tryz.ntmps49
  go_wp2_with fail
  refine (HF.out _ (h0.out _).tail.gold).mono ?_
  rintro e w1 ⟨rfl, b1⟩
  have hB := Lib.hid (((h0.out _).below b1).alloc #[.int .i64 0, .int .i64 0, .int .i64 0, .int .i64 0, .int .i64 0] 58)
  clear b1
  go_wp2_with fail
  go_ret
  exact ⟨rfl, hB.out.tail.tail.gold⟩
set_option maxHeartbeats 1000000 in
theorem blockers_calm (t r n : Int) (v : Value) (l : List Rq) (id0 : Int) (w : World) (hv : RQ w v l) (hl : l.length ≤ 1000) (i : Nat) (hi : plc l id0 = i) (hil : i < l.length) (hs : decide (0 < (l.getD i default).since) = false) :
    Calls Tryz.prog 49 #[hval t r v n, .int .i64 id0] w fun e w' => e = .returned (.slice none 0 0) ∧ Below w.heap.size w w' := by
  have h0 := Lib.hid (fun b0 => (Sep.start w).alloc b0 43)
  have HF := Lib.hid (fun W hb => find_some t r n v l id0 W (hv.below hb) hl i hi hil)
  have HW := Lib.hid (fun W => waits_any (l.getD i default) W)
  rw [hs] at HW
  obtain ⟨a, c, rfl, _⟩ := hv
  clear hs
  generalize l.getD i default = q at *
  obtain ⟨id, txn, mode, want, since⟩ := q
  unfold hval Rq.val at *
  simp only at HF HW
  go_enter Tryz.func49, Tryz.ntmps49
  go_wp2_with fail
  refine (HF.out _ (h0.out _).tail.gold).mono ?_
  rintro e w1 ⟨rfl, b1⟩
  have hB := Lib.hid (((h0.out _).below b1).alloc #[.int .i64 id, .int .i64 txn, .int .i64 mode, .int .i64 want, .int .i64 since] 58)
  obtain ⟨_, p0, p1, p2, p3, p4, _⟩ := hB.out.b5
  clear b1
  go_wp2_with fail
  refine (HW.out _).mono ?_
  rintro e w2 ⟨rfl, b2⟩
  replace hB := Lib.hid (hB.out.below b2)
  clear b2 p0 p1 p2 p3 p4
  go_wp2_with fail
  go_ret
  exact ⟨rfl, hB.out.tail.tail.gold⟩
set_option maxHeartbeats 2000000 in
set_option maxRecDepth 100000 in
theorem blockers_some (t r n : Int) (v : Value) (l : List Rq) (id0 : Int) (w : World) (hv : RQ w v l) (hl : l.length ≤ 1000) (i : Nat) (hi : plc l id0 = i) (hil : i < l.length) (hs : decide (0 < (l.getD i default).since) = true) :
    Calls Tryz.prog 49 #[hval t r v n, .int .i64 id0] w fun e w' => ∃ a c, e = .returned (.slice a (nrm (blkL l (l.getD i default))).length c) ∧ Sep w' [vec 3 1 (.slice a (nrm (blkL l (l.getD i default))).length c) (nrm (blkL l (l.getD i default))).length ((nrm (blkL l (l.getD i default))).map (Value.int .i64)), old w] := by
  have h0 := Lib.hid (fun b0 => (Sep.start w).alloc b0 43)
  have HF := Lib.hid (fun W hb => find_some t r n v l id0 W (hv.below hb) hl i hi hil)
  have HW := Lib.hid (fun W => waits_any (l.getD i default) W)
  rw [hs] at HW
  obtain ⟨a, c, rfl, hlc, _, hr⟩ := hv
  replace hr := Lib.hid hr
  clear hs hi hil
  generalize l.getD i default = q at *
  have hlen := Lib.hid (fun k => blkL_len (l.take k) q)
  have HBl := Lib.hid (fun o W => blocks_any o q W)
  have HSo := Lib.hid (fun a n c xs w rs h1 h2 h3 => sortInts_any a n c xs w rs h1 h2 h3)
  have HCo := Lib.hid (fun a n c xs w rs h1 h2 h3 => compactInts_any a n c xs w rs h1 h2 h3)
  have eg := eg_cmp
  obtain ⟨i0, hi, hz0, hz1, hz2⟩ := info_parts info_intE
  obtain ⟨R, hR⟩ : ∃ R, nrm (blkL l q) = R := ⟨_, rfl⟩
  rw [hR]
  replace hR := Lib.hid hR
  have hsn := Lib.hid (fun k h => blkL_snoc l q k h)
  obtain ⟨q', hq'⟩ : ∃ q', q = q' := ⟨_, rfl⟩
  rw [hq'] at HF HW HBl
  replace hq' := Lib.hid hq'
  obtain ⟨id, txn, mode, want, since⟩ := q'
  unfold hval Rq.val at *
  simp only at HF HW HBl
  generalize hm : l.length = m at *
  replace hm := Lib.hid hm
  go_enter Tryz.func49, Tryz.ntmps49
  go_wp2_with fail
  refine (HF.out _ (h0.out _).tail.gold).mono ?_
  rintro e w1 ⟨rfl, b1⟩
  have hB := Lib.hid (((h0.out _).below b1).alloc #[.int .i64 id, .int .i64 txn, .int .i64 mode, .int .i64 want, .int .i64 since] 58)
  obtain ⟨_, p0, p1, p2, p3, p4, _⟩ := hB.out.b5
  clear b1 HF h0
  go_wp2_with fail
  refine (HW.out _).mono ?_
  rintro e w2 ⟨rfl, b2⟩
  replace hB := Lib.hid (hB.out.below b2)
  clear b2 HW p0 p1 p2 p3 p4
  generalize w1.heap.size = RB at *
  obtain ⟨_, d0, d1, d2, d3, _⟩ := hB.out.to1.b4
  have hS := Lib.hid (hB.out.vec_nil 3 1)
  clear hB
  go_wp2_with fail
  go_loopw [7, 26] (fun s x wr => ∃ (k : Nat) (sv : Value), k ≤ m ∧ x = .int .i64 k ∧ sv = s ∧ Hid (Sep wr [vec 3 1 sv (blkL (l.take k) q).length ((blkL (l.take k) q).map (Value.int .i64)), blk RB 58 #[.int .i64 id, .int .i64 txn, .int .i64 mode, .int .i64 want, .int .i64 since], blk w.heap.size 43 #[.int .i64 t, .int .i64 r, .slice a m c, .int .i64 n], old w])) (fun _ x _ => m - (intOf x).toNat)
  case atStart => exact ⟨0, _, Nat.zero_le _, rfl, rfl, hS⟩
  case round =>
    clear hS d0 d1 d2 d3
    obtain ⟨k, sv, hk, rfl, rfl, hS⟩ := hrel
    obtain ⟨sa, sc, rfl⟩ := own_slice hS.out.gvec
    have hkl := hlen.out k
    by_cases hlt : k < m
    · obtain ⟨b, off, rfl, hbl, hz⟩ := hr.out (by have := hm.out; omega)
      obtain ⟨z0, z1, z2, z3, z4⟩ := hz k (by have := hm.out; omega)
      have kk : ∀ o, wr.cell? ⟨b, o, none⟩ = w.cell? ⟨b, o, none⟩ := fun o => hS.out.to3.gold.cell (p := ⟨b, o, none⟩) hbl
      rw [← kk] at z0 z1 z2 z3 z4
      have E := Lib.hid (hsn.out k hlt)
      have hkl2 : (blkL (l.take k) q).length ≤ k := Nat.le_trans hkl (by rw [List.length_take]; omega)
      have HB2 := Lib.hid (fun W => HBl.out (l.getD k default) W)
      have hS2 := hS.out.alloc (l.getD k default).cells.toArray 58
      rw [hq'.out] at E
      generalize hbv : blocksB (l.getD k default) ⟨id, txn, mode, want, since⟩ = bv at *
      replace hbv := Lib.hid hbv
      generalize l.getD k default = o at *
      obtain ⟨oid, otxn, omode, owant, osince⟩ := o
      simp only [Rq.cells] at hS2
      simp only at z0 z1 z2 z3 z4 E HB2
      rw [← hq'.out] at E
      replace hS2 := Lib.hid (show Sep _ [blk wr.heap.size 58 #[.int .i64 oid, .int .i64 otxn, .int .i64 omode, .int .i64 owant, .int .i64 osince], _, _, _, _] from hS2)
      obtain ⟨_, p0, p1, p2, p3, p4, _⟩ := hS2.out.b5
      obtain ⟨_, r0, r1, r2, r3, r4, _⟩ := hS2.out.to2.b5
      have i1 : (0 : Int) ≤ (k : Int) := by omega
      have i2 : (k : Int) < (m : Int) := by omega
      clear kk hz hkl
      go_wp2_with fail
      refine (HB2.out _).mono ?_
      rintro e w3 ⟨rfl, b3⟩
      replace hS2 := Lib.hid (hS2.out.below b3)
      generalize wr.heap.size = OB at *
      clear b3 HB2 p0 p1 p2 p3 p4 r0 r1 r2 r3 r4 z0 z1 z2 z3 z4 hS
      obtain ⟨_, p0, p1, p2, p3, p4, _⟩ := hS2.out.b5
      cases bv with
      | true =>
        rw [if_pos rfl] at E
        go_wp2_with (at_builtin; refine wpList_append_sep (hS2.out.to1.allocG _) rfl _ _ 24 rfl i0 (.int .i64 0) 8 Tryz.underlying24 hi hz0 hz1 hz2 rfl (by decide) rfl 1 [.int .i64 otxn] (SrcA.one _ _ _ _) ?c2 ?c3 ?c4 ?_)
        case c2 => simp [Value.oneCell']
        case c3 => simp only [maxLen]; omega
        case c4 => omega
        intro aa ca w5 hS5
        have hS6 : Hid (Sep w5 [vec 3 1 (.slice aa ((blkL (l.take k) q).length + 1) ca) (blkL (l.take (k + 1)) q).length ((blkL (l.take (k + 1)) q).map (Value.int .i64)), _, _, _]) := Lib.hid (by rw [E.out]; simpa using hS5.drop1)
        clear hS2 E hS5 p0 p1 p2 p3 p4
        go_wp2_with fail
        go_roundw
        case rel => exact ⟨k + 1, _, by omega, by go_num, rfl, hS6⟩
        case measure => simp [intOf]; omega
      | false =>
        rw [if_neg (by decide), List.append_nil] at E
        have hS6 : Hid (Sep w3 [vec 3 1 (.slice sa (blkL (l.take k) q).length sc) (blkL (l.take (k + 1)) q).length ((blkL (l.take (k + 1)) q).map (Value.int .i64)), _, _, _]) := Lib.hid (by rw [E.out]; exact hS2.out.tail)
        clear hS2 E p0 p1 p2 p3 p4
        go_wp2_with fail
        go_roundw
        case rel => exact ⟨k + 1, _, by omega, by go_num, rfl, hS6⟩
        case measure => simp [intOf]; omega
    · obtain rfl : k = m := by omega
      have e1 : l.take k = l := List.take_of_length_le (by rw [hm.out]; omega)
      rw [e1] at hS hkl ⊢
      clear hsn hlen hr HBl
      obtain ⟨xs, hxs⟩ : ∃ xs, blkL l q = xs := ⟨_, rfl⟩
      rw [hxs] at hS hkl ⊢
      have hR2 := hR.out
      rw [hxs] at hR2
      clear hR hxs e1
      have HS2 := Lib.hid (HSo.out sa xs.length sc xs wr _ hS.out rfl (by have := hm.out; omega))
      clear HSo
      go_wp2_with fail
      refine HS2.out.mono ?_
      rintro e w3 ⟨rfl, ys, hp, hso, hS3⟩
      have e2 := sorted_eq hp hso
      have HC2 := Lib.hid (HCo.out sa xs.length sc ys w3 _ hS3 hp.length_eq (by have := hm.out; omega))
      have e3 : Lib.compact ys = R := by rw [e2]; exact hR2
      rw [e3] at HC2
      clear HCo HS2 hS3 hS e2 e3 hR2 hp hso
      go_wp2_with fail
      refine HC2.out.mono ?_
      rintro e w4 ⟨rfl, hS4⟩
      replace hS4 := Lib.hid hS4
      clear HC2
      go_wp2_with fail
      go_ret
      exact ⟨_, _, rfl, hS4.out.drop1.drop1⟩
end Go.Proofs.YthbamhfnemdebaaGreat
namespace Go.Proofs.YthbamhfnemdebaaGreat
open Go.RowKit
theorem cpI_props (l : List Int) (hs : l.Pairwise (· ≤ ·)) : ∀ m, m ≤ l.length → (∀ e, e ∈ Lib.compactUpTo l.toArray m ↔ e ∈ l.take m) ∧ (Lib.compactUpTo l.toArray m).Pairwise (· < ·)
  | 0, _ => by simp [Lib.compactUpTo]
  | m + 1, hm => by
    obtain ⟨h1, h2⟩ := cpI_props l hs m (by omega)
    have hg : l.toArray[m]! = l[m] := by simp [show m < l.length by omega]
    have htk : l.take (m + 1) = l.take m ++ [l[m]] := List.take_succ_eq_append_getElem (by omega)
    have hle : ∀ i, ∀ h : i < m, l[i]'(by omega) ≤ l[m]'(by omega) := fun i h => List.pairwise_iff_getElem.1 hs i m (by omega) (by omega) h
    rw [Lib.compactUpTo_succ, htk, hg]
    cases hk : Lib.keeps l.toArray m with
    | false =>
      simp only [Bool.false_eq_true, if_false, List.append_nil]
      refine ⟨fun e => ?_, h2⟩
      rw [h1, List.mem_append, List.mem_singleton]
      refine ⟨.inl, fun h => h.elim id fun h => ?_⟩
      subst h
      cases m with
      | zero => simp [Lib.keeps] at hk
      | succ p =>
        have hp : l.toArray[p]! = l[p] := by simp [show p < l.length by omega]
        have he : l[p + 1] = l[p] := by
          unfold Lib.keeps at hk
          rw [Nat.add_sub_cancel, hg, hp] at hk
          simpa using hk
        rw [he]
        exact List.mem_take_iff_getElem.2 ⟨p, by omega, rfl⟩
    | true =>
      simp only [if_true]
      refine ⟨fun e => by rw [List.mem_append, List.mem_append, h1], ?_⟩
      rw [List.pairwise_append]
      refine ⟨h2, List.pairwise_singleton _ _, fun x hx y hy => ?_⟩
      rw [List.mem_singleton] at hy
      subst hy
      rw [h1] at hx
      obtain ⟨i, hi, rfl⟩ := List.mem_take_iff_getElem.1 hx
      have hi2 : i < m := by omega
      have hxm := hle i hi2
      have hne : l[i]'(by omega) ≠ l[m]'(by omega) := by
        intro heq
        cases m with
        | zero => omega
        | succ p =>
          have hp : l.toArray[p]! = l[p] := by simp [show p < l.length by omega]
          have hd : l[p + 1] ≠ l[p] := by
            unfold Lib.keeps at hk
            rw [Nat.add_sub_cancel, hg, hp] at hk
            simpa using hk
          have h3 : l[i]'(by omega) ≤ l[p]'(by omega) := by
            by_cases hip : i = p
            · subst hip
              exact Int.le_refl _
            · exact List.pairwise_iff_getElem.1 hs i p (by omega) (by omega) (by omega)
          have h4 : l[p]'(by omega) ≤ l[p + 1]'(by omega) := hle p (by omega)
          rw [heq] at h3
          exact hd (Int.le_antisymm h3 h4)
      omega
theorem srtI_pw (xs : List Int) : (xs.mergeSort fun a b => decide (a ≤ b)).Pairwise (· ≤ ·) := by
  have := List.pairwise_mergeSort (le := fun a b : Int => decide (a ≤ b)) (fun a b c h1 h2 => by simp at *; omega) (fun a b => by simp; omega) xs
  exact this.imp (fun {a b} h => by simpa using h)
theorem nrm_mem (xs : List Int) (x : Int) : x ∈ nrm xs ↔ x ∈ xs := by
  have h := (cpI_props _ (srtI_pw xs) _ (Nat.le_refl _)).1 x
  rw [List.take_length] at h
  exact h.trans (List.mergeSort_perm xs _).mem_iff
theorem nrm_pw (xs : List Int) : (nrm xs).Pairwise (· < ·) := (cpI_props _ (srtI_pw xs) _ (Nat.le_refl _)).2
/-- Strict order and members make a list. -/
theorem ltI_uniq : ∀ (l l' : List Int), l.Pairwise (· < ·) → l'.Pairwise (· < ·) → (∀ e, e ∈ l ↔ e ∈ l') → l = l'
  | [], [], _, _, _ => rfl
  | [], y :: l', _, _, h => by simpa using (h y)
  | x :: l, [], _, _, h => by simpa using (h x)
  | x :: l, y :: l', h1, h2, h => by
    rw [List.pairwise_cons] at h1 h2
    have hx := (h x).1 (by simp)
    have hy := (h y).2 (by simp)
    rw [List.mem_cons] at hx hy
    have e : x = y := by
      rcases hx with hx | hx
      · exact hx
      · rcases hy with hy | hy
        · exact hy.symm
        · have a := h2.1 x hx
          have b := h1.1 y hy
          omega
    subst e
    congr 1
    refine ltI_uniq l l' h1.2 h2.2 fun e => ?_
    have he := h e
    rw [List.mem_cons, List.mem_cons] at he
    constructor
    · intro hm
      rcases he.1 (.inr hm) with rfl | h3
      · exact absurd (h1.1 _ hm) (by omega)
      · exact h3
    · intro hm
      rcases he.2 (.inr hm) with rfl | h3
      · exact absurd (h2.1 _ hm) (by omega)
      · exact h3
/-- A number into rising ones, once. -/
def kI (l : List Int) (x : Int) : Nat := l.findIdx fun y => !decide (y < x)
def putI (l : List Int) (x : Int) : List Int := if l[kI l x]? = some x then l else l.take (kI l x) ++ [x] ++ l.drop (kI l x)
theorem kI_le (l : List Int) (x : Int) : kI l x ≤ l.length := List.findIdx_le_length
theorem kI_low (l : List Int) (x : Int) (j : Nat) (h : j < kI l x) : l.getD j 0 < x := by
  have hl := kI_le l x
  have h1 := List.not_of_lt_findIdx (p := fun y => !decide (y < x)) (xs := l) (i := j) h
  simp at h1
  simpa [List.getD, show j < l.length by omega] using h1
theorem kI_eq (l : List Int) (x : Int) (k : Nat) (hk : k ≤ l.length) (h1 : ∀ j, j < k → l.getD j 0 < x) (h2 : k < l.length → ¬ l.getD k 0 < x) : kI l x = k := by
  rcases Nat.lt_trichotomy (kI l x) k with h | h | h
  · have h3 := h1 _ h
    have hl : kI l x < l.length := by omega
    have h4 := List.findIdx_getElem (p := fun y => !decide (y < x)) (xs := l) (w := hl)
    simp at h4
    have e : l.getD (kI l x) 0 = l[kI l x] := by simp [List.getD, hl]
    rw [e] at h3
    unfold kI at h3
    omega
  · exact h
  · have := kI_low l x k h
    have hl := kI_le l x
    exact absurd this (h2 (by omega))
theorem putI_mem (l : List Int) (x y : Int) : y ∈ putI l x ↔ y ∈ l ∨ y = x := by
  unfold putI
  split
  · rename_i h
    refine ⟨.inl, fun h2 => h2.elim id fun h2 => ?_⟩
    rw [h2]
    exact List.mem_of_getElem? h
  · rw [List.mem_append, List.mem_append, List.mem_singleton]
    have : y ∈ l ↔ y ∈ l.take (kI l x) ∨ y ∈ l.drop (kI l x) := by rw [← List.mem_append, List.take_append_drop]
    rw [this]
    constructor
    · rintro ((h | h) | h)
      · exact .inl (.inl h)
      · exact .inr h
      · exact .inl (.inr h)
    · rintro ((h | h) | h)
      · exact .inl (.inl h)
      · exact .inr h
      · exact .inl (.inr h)
theorem putI_pw (l : List Int) (x : Int) (h : l.Pairwise (· < ·)) : (putI l x).Pairwise (· < ·) := by
  unfold putI
  split
  · exact h
  · rename_i hne
    have hk := kI_le l x
    have hlow : ∀ y ∈ l.take (kI l x), y < x := by
      intro y hy
      obtain ⟨i, hi, rfl⟩ := List.mem_take_iff_getElem.1 hy
      have := kI_low l x i (by omega)
      simpa [List.getD, show i < l.length by omega] using this
    have hhigh : ∀ y ∈ l.drop (kI l x), x < y := by
      intro y hy
      have hlt : kI l x < l.length := by
        rcases Nat.lt_or_ge (kI l x) l.length with h1 | h1
        · exact h1
        · rw [List.drop_eq_nil_of_le h1] at hy
          simp at hy
      have h4 := List.findIdx_getElem (p := fun y => !decide (y < x)) (xs := l) (w := hlt)
      simp at h4
      have h5 : l[kI l x] ≠ x := fun e => hne (by rw [List.getElem?_eq_getElem hlt, e])
      have h6 : x < l[kI l x] := by
        unfold kI at h5 ⊢
        omega
      obtain ⟨j, hj, rfl⟩ := List.mem_drop_iff_getElem.1 hy
      rcases Nat.eq_zero_or_pos j with rfl | hj0
      · simpa using h6
      · have := List.pairwise_iff_getElem.1 h (kI l x) (kI l x + j) hlt (by omega) (by omega)
        omega
    rw [List.append_assoc, List.pairwise_append]
    refine ⟨h.take, ?_, ?_⟩
    · rw [List.singleton_append, List.pairwise_cons]
      exact ⟨hhigh, h.drop⟩
    · intro a ha b hb
      have h1 := hlow a ha
      rw [List.singleton_append, List.mem_cons] at hb
      rcases hb with rfl | hb
      · exact h1
      · have := hhigh b hb
        omega
theorem putI_fold (L O : List Int) (h : O.Pairwise (· < ·)) : (L.foldl putI O).Pairwise (· < ·) ∧ ∀ x, x ∈ L.foldl putI O ↔ x ∈ O ∨ x ∈ L := by
  induction L generalizing O with
  | nil => exact ⟨h, by simp⟩
  | cons e l ih =>
    obtain ⟨h1, h2⟩ := ih (putI O e) (putI_pw O e h)
    refine ⟨h1, fun x => ?_⟩
    rw [List.foldl_cons, h2, putI_mem, List.mem_cons, or_assoc]
theorem putI_nrm (L : List Int) : L.foldl putI [] = nrm L := by
  obtain ⟨h1, h2⟩ := putI_fold L [] (by simp)
  exact ltI_uniq _ _ h1 (nrm_pw L) fun x => by rw [h2, nrm_mem]; simp
theorem putI_len (l : List Int) (x : Int) : (putI l x).length ≤ l.length + 1 := by
  unfold putI
  split
  · omega
  · simp only [List.length_append, List.length_take, List.length_drop, List.length_cons, List.length_nil]
    have := kI_le l x
    omega
theorem Sep.vec_ptr {w : World} {e : TypeId} {sz n c : Nat} {a : Option Addr} {cs : List Value} {rs : List Res} (h : Sep w (vec e sz (.slice a n c) n cs :: rs)) (h0 : 0 < n) : ∃ g, a = some ⟨g, 0, none⟩ := by
  rcases h.gvec.2 with ⟨_, h1⟩ | ⟨g, cap, cur, hv, _⟩
  · omega
  · injection hv with e1 _ _
    exact ⟨g, e1⟩
theorem int_at {xs : List Int} {i : Nat} (h : i < xs.length) : (xs.map (Value.int .i64))[i]? = some (.int .i64 (xs.getD i 0)) := by
  rw [List.getElem?_map, List.getElem?_eq_getElem h]
  simp [List.getD, h]
end Go.Proofs.YthbamhfnemdebaaGreat
