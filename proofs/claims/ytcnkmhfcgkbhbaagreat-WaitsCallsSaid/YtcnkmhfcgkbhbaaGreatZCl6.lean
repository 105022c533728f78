/-
  Contracts and plain laws that the walk leans on, part 6. No condition.
-/
import Derived.Test.YtcnkmhfcgkbhbaaGreatZCl5
import Derived.Shelf.SlSortCmp.Whole1
import Derived.Shelf.SlSortCmp.WholeK
import Derived.Shelf.SlSortCmp.NoneTotal
namespace Go.Proofs.YtcnkmhfcgkbhbaaGreat
open Go.RowKit
def blocksB (a b : Rq) : Bool := if a.id == b.id then false else if a.mode != 0 && !comB a.mode b.want then true else if upB a then (!(b.mode != 0) || decide (a.since < b.since)) else (!(b.mode != 0) && (!(a.mode != 0) && decide (a.since < b.since)))
set_option maxHeartbeats 1000000 in
theorem blocks_any (a b : Rq) (w : World) : Calls Tryz.prog 51 #[a.val, b.val] w fun e w' => e = .returned (.bool (blocksB a b)) ∧ Below w.heap.size w w' := by
  have HHa := Lib.hid (fun W => holds_any a W)
  have HHb := Lib.hid (fun W => holds_any b W)
  have HC := Lib.hid (fun W => compat_any a.mode b.want W)
  have HU := Lib.hid (fun W => upgrades_any a W)
  obtain ⟨aid, atxn, amode, awant, asince⟩ := a
  obtain ⟨bid, btxn, bmode, bwant, bsince⟩ := b
  have hB := Lib.hid (boxes2 w 64 64 #[.int .i64 aid, .int .i64 atxn, .int .i64 amode, .int .i64 awant, .int .i64 asince] #[.int .i64 bid, .int .i64 btxn, .int .i64 bmode, .int .i64 bwant, .int .i64 bsince])
  unfold Rq.val at *
  simp only at *
  cases h1 : aid == bid with
  | true =>
    have E := Lib.hid (show blocksB ⟨aid, atxn, amode, awant, asince⟩ ⟨bid, btxn, bmode, bwant, bsince⟩ = false by simp [blocksB, upB, h1])
    rw [E.out]
    clear E
    go_enter Tryz.func51, Tryz.ntmps51
    go_wp2_with fail
    go_ret
    exact ⟨rfl, hB.out.tail.tail.gold⟩
  | false =>
    cases h2 : amode != 0 with
    | true =>
      cases h3 : comB amode bwant with
      | true =>
        cases h4 : decide (0 < asince) with
        | true =>
          cases h5 : bmode != 0 with
          | true =>
            have E := Lib.hid (show blocksB ⟨aid, atxn, amode, awant, asince⟩ ⟨bid, btxn, bmode, bwant, bsince⟩ = decide (asince < bsince) by simp [blocksB, upB, h1, h2, h3, h4, h5])
            rw [E.out]
            clear E
            try simp only [upB] at HHa
            try simp only [h1] at HHa
            try simp only [h2] at HHa
            try simp only [h3] at HHa
            try simp only [h4] at HHa
            try simp only [h5] at HHa
            try simp only [Bool.true_and] at HHa
            try simp only [Bool.false_and] at HHa
            try simp only [Bool.and_true] at HHa
            try simp only [Bool.and_false] at HHa
            try simp only [upB] at HC
            try simp only [h1] at HC
            try simp only [h2] at HC
            try simp only [h3] at HC
            try simp only [h4] at HC
            try simp only [h5] at HC
            try simp only [Bool.true_and] at HC
            try simp only [Bool.false_and] at HC
            try simp only [Bool.and_true] at HC
            try simp only [Bool.and_false] at HC
            try simp only [upB] at HU
            try simp only [h1] at HU
            try simp only [h2] at HU
            try simp only [h3] at HU
            try simp only [h4] at HU
            try simp only [h5] at HU
            try simp only [Bool.true_and] at HU
            try simp only [Bool.false_and] at HU
            try simp only [Bool.and_true] at HU
            try simp only [Bool.and_false] at HU
            try simp only [upB] at HHb
            try simp only [h1] at HHb
            try simp only [h2] at HHb
            try simp only [h3] at HHb
            try simp only [h4] at HHb
            try simp only [h5] at HHb
            try simp only [Bool.true_and] at HHb
            try simp only [Bool.false_and] at HHb
            try simp only [Bool.and_true] at HHb
            try simp only [Bool.and_false] at HHb
            go_enter Tryz.func51, Tryz.ntmps51
            go_wp2_with fail
            refine (HHa.out _).mono ?_
            rintro e w1 ⟨rfl, b1⟩
            replace hB := Lib.hid (hB.out.below b1)
            clear b1
            obtain ⟨_, c0, c1, c2, c3, c4, _⟩ := hB.out.b5
            obtain ⟨_, d0, d1, d2, d3, d4, _⟩ := hB.out.to1.b5
            go_wp2_with fail
            refine (HC.out _).mono ?_
            rintro e w2 ⟨rfl, b2⟩
            replace hB := Lib.hid (hB.out.below b2)
            clear b2 c0 c1 c2 c3 c4 d0 d1 d2 d3 d4
            obtain ⟨_, c0, c1, c2, c3, c4, _⟩ := hB.out.b5
            obtain ⟨_, d0, d1, d2, d3, d4, _⟩ := hB.out.to1.b5
            go_wp2_with fail
            refine (HU.out _).mono ?_
            rintro e w3 ⟨rfl, b3⟩
            replace hB := Lib.hid (hB.out.below b3)
            clear b3 c0 c1 c2 c3 c4 d0 d1 d2 d3 d4
            obtain ⟨_, c0, c1, c2, c3, c4, _⟩ := hB.out.b5
            obtain ⟨_, d0, d1, d2, d3, d4, _⟩ := hB.out.to1.b5
            go_wp2_with fail
            refine (HHb.out _).mono ?_
            rintro e w4 ⟨rfl, b4⟩
            replace hB := Lib.hid (hB.out.below b4)
            clear b4 c0 c1 c2 c3 c4 d0 d1 d2 d3 d4
            obtain ⟨_, c0, c1, c2, c3, c4, _⟩ := hB.out.b5
            obtain ⟨_, d0, d1, d2, d3, d4, _⟩ := hB.out.to1.b5
            go_wp2_with fail
            go_ret
            exact ⟨rfl, hB.out.tail.tail.gold⟩
          | false =>
            have E := Lib.hid (show blocksB ⟨aid, atxn, amode, awant, asince⟩ ⟨bid, btxn, bmode, bwant, bsince⟩ = true by simp [blocksB, upB, h1, h2, h3, h4, h5])
            rw [E.out]
            clear E
            try simp only [upB] at HHa
            try simp only [h1] at HHa
            try simp only [h2] at HHa
            try simp only [h3] at HHa
            try simp only [h4] at HHa
            try simp only [h5] at HHa
            try simp only [Bool.true_and] at HHa
            try simp only [Bool.false_and] at HHa
            try simp only [Bool.and_true] at HHa
            try simp only [Bool.and_false] at HHa
            try simp only [upB] at HC
            try simp only [h1] at HC
            try simp only [h2] at HC
            try simp only [h3] at HC
            try simp only [h4] at HC
            try simp only [h5] at HC
            try simp only [Bool.true_and] at HC
            try simp only [Bool.false_and] at HC
            try simp only [Bool.and_true] at HC
            try simp only [Bool.and_false] at HC
            try simp only [upB] at HU
            try simp only [h1] at HU
            try simp only [h2] at HU
            try simp only [h3] at HU
            try simp only [h4] at HU
            try simp only [h5] at HU
            try simp only [Bool.true_and] at HU
            try simp only [Bool.false_and] at HU
            try simp only [Bool.and_true] at HU
            try simp only [Bool.and_false] at HU
            try simp only [upB] at HHb
            try simp only [h1] at HHb
            try simp only [h2] at HHb
            try simp only [h3] at HHb
            try simp only [h4] at HHb
            try simp only [h5] at HHb
            try simp only [Bool.true_and] at HHb
            try simp only [Bool.false_and] at HHb
            try simp only [Bool.and_true] at HHb
            try simp only [Bool.and_false] at HHb
            go_enter Tryz.func51, Tryz.ntmps51
            go_wp2_with fail
            refine (HHa.out _).mono ?_
            rintro e w1 ⟨rfl, b1⟩
            replace hB := Lib.hid (hB.out.below b1)
            clear b1
            obtain ⟨_, c0, c1, c2, c3, c4, _⟩ := hB.out.b5
            obtain ⟨_, d0, d1, d2, d3, d4, _⟩ := hB.out.to1.b5
            go_wp2_with fail
            refine (HC.out _).mono ?_
            rintro e w2 ⟨rfl, b2⟩
            replace hB := Lib.hid (hB.out.below b2)
            clear b2 c0 c1 c2 c3 c4 d0 d1 d2 d3 d4
            obtain ⟨_, c0, c1, c2, c3, c4, _⟩ := hB.out.b5
            obtain ⟨_, d0, d1, d2, d3, d4, _⟩ := hB.out.to1.b5
            go_wp2_with fail
            refine (HU.out _).mono ?_
            rintro e w3 ⟨rfl, b3⟩
            replace hB := Lib.hid (hB.out.below b3)
            clear b3 c0 c1 c2 c3 c4 d0 d1 d2 d3 d4
            obtain ⟨_, c0, c1, c2, c3, c4, _⟩ := hB.out.b5
            obtain ⟨_, d0, d1, d2, d3, d4, _⟩ := hB.out.to1.b5
            go_wp2_with fail
            refine (HHb.out _).mono ?_
            rintro e w4 ⟨rfl, b4⟩
            replace hB := Lib.hid (hB.out.below b4)
            clear b4 c0 c1 c2 c3 c4 d0 d1 d2 d3 d4
            obtain ⟨_, c0, c1, c2, c3, c4, _⟩ := hB.out.b5
            obtain ⟨_, d0, d1, d2, d3, d4, _⟩ := hB.out.to1.b5
            go_wp2_with fail
            go_ret
            exact ⟨rfl, hB.out.tail.tail.gold⟩
        | false =>
          cases h5 : bmode != 0 with
          | true =>
            have E := Lib.hid (show blocksB ⟨aid, atxn, amode, awant, asince⟩ ⟨bid, btxn, bmode, bwant, bsince⟩ = false by simp [blocksB, upB, h1, h2, h3, h4, h5])
            rw [E.out]
            clear E
            try simp only [upB] at HHa
            try simp only [h1] at HHa
            try simp only [h2] at HHa
            try simp only [h3] at HHa
            try simp only [h4] at HHa
            try simp only [h5] at HHa
            try simp only [Bool.true_and] at HHa
            try simp only [Bool.false_and] at HHa
            try simp only [Bool.and_true] at HHa
            try simp only [Bool.and_false] at HHa
            try simp only [upB] at HC
            try simp only [h1] at HC
            try simp only [h2] at HC
            try simp only [h3] at HC
            try simp only [h4] at HC
            try simp only [h5] at HC
            try simp only [Bool.true_and] at HC
            try simp only [Bool.false_and] at HC
            try simp only [Bool.and_true] at HC
            try simp only [Bool.and_false] at HC
            try simp only [upB] at HU
            try simp only [h1] at HU
            try simp only [h2] at HU
            try simp only [h3] at HU
            try simp only [h4] at HU
            try simp only [h5] at HU
            try simp only [Bool.true_and] at HU
            try simp only [Bool.false_and] at HU
            try simp only [Bool.and_true] at HU
            try simp only [Bool.and_false] at HU
            try simp only [upB] at HHb
            try simp only [h1] at HHb
            try simp only [h2] at HHb
            try simp only [h3] at HHb
            try simp only [h4] at HHb
            try simp only [h5] at HHb
            try simp only [Bool.true_and] at HHb
            try simp only [Bool.false_and] at HHb
            try simp only [Bool.and_true] at HHb
            try simp only [Bool.and_false] at HHb
            go_enter Tryz.func51, Tryz.ntmps51
            go_wp2_with fail
            refine (HHa.out _).mono ?_
            rintro e w1 ⟨rfl, b1⟩
            replace hB := Lib.hid (hB.out.below b1)
            clear b1
            obtain ⟨_, c0, c1, c2, c3, c4, _⟩ := hB.out.b5
            obtain ⟨_, d0, d1, d2, d3, d4, _⟩ := hB.out.to1.b5
            go_wp2_with fail
            refine (HC.out _).mono ?_
            rintro e w2 ⟨rfl, b2⟩
            replace hB := Lib.hid (hB.out.below b2)
            clear b2 c0 c1 c2 c3 c4 d0 d1 d2 d3 d4
            obtain ⟨_, c0, c1, c2, c3, c4, _⟩ := hB.out.b5
            obtain ⟨_, d0, d1, d2, d3, d4, _⟩ := hB.out.to1.b5
            go_wp2_with fail
            refine (HU.out _).mono ?_
            rintro e w3 ⟨rfl, b3⟩
            replace hB := Lib.hid (hB.out.below b3)
            clear b3 c0 c1 c2 c3 c4 d0 d1 d2 d3 d4
            obtain ⟨_, c0, c1, c2, c3, c4, _⟩ := hB.out.b5
            obtain ⟨_, d0, d1, d2, d3, d4, _⟩ := hB.out.to1.b5
            go_wp2_with fail
            refine (HHb.out _).mono ?_
            rintro e w4 ⟨rfl, b4⟩
            replace hB := Lib.hid (hB.out.below b4)
            clear b4 c0 c1 c2 c3 c4 d0 d1 d2 d3 d4
            obtain ⟨_, c0, c1, c2, c3, c4, _⟩ := hB.out.b5
            obtain ⟨_, d0, d1, d2, d3, d4, _⟩ := hB.out.to1.b5
            go_wp2_with fail
            go_ret
            exact ⟨rfl, hB.out.tail.tail.gold⟩
          | false =>
            have E := Lib.hid (show blocksB ⟨aid, atxn, amode, awant, asince⟩ ⟨bid, btxn, bmode, bwant, bsince⟩ = false by simp [blocksB, upB, h1, h2, h3, h4, h5])
            rw [E.out]
            clear E
            try simp only [upB] at HHa
            try simp only [h1] at HHa
            try simp only [h2] at HHa
            try simp only [h3] at HHa
            try simp only [h4] at HHa
            try simp only [h5] at HHa
            try simp only [Bool.true_and] at HHa
            try simp only [Bool.false_and] at HHa
            try simp only [Bool.and_true] at HHa
            try simp only [Bool.and_false] at HHa
            try simp only [upB] at HC
            try simp only [h1] at HC
            try simp only [h2] at HC
            try simp only [h3] at HC
            try simp only [h4] at HC
            try simp only [h5] at HC
            try simp only [Bool.true_and] at HC
            try simp only [Bool.false_and] at HC
            try simp only [Bool.and_true] at HC
            try simp only [Bool.and_false] at HC
            try simp only [upB] at HU
            try simp only [h1] at HU
            try simp only [h2] at HU
            try simp only [h3] at HU
            try simp only [h4] at HU
            try simp only [h5] at HU
            try simp only [Bool.true_and] at HU
            try simp only [Bool.false_and] at HU
            try simp only [Bool.and_true] at HU
            try simp only [Bool.and_false] at HU
            try simp only [upB] at HHb
            try simp only [h1] at HHb
            try simp only [h2] at HHb
            try simp only [h3] at HHb
            try simp only [h4] at HHb
            try simp only [h5] at HHb
            try simp only [Bool.true_and] at HHb
            try simp only [Bool.false_and] at HHb
            try simp only [Bool.and_true] at HHb
            try simp only [Bool.and_false] at HHb
            go_enter Tryz.func51, Tryz.ntmps51
            go_wp2_with fail
            refine (HHa.out _).mono ?_
            rintro e w1 ⟨rfl, b1⟩
            replace hB := Lib.hid (hB.out.below b1)
            clear b1
            obtain ⟨_, c0, c1, c2, c3, c4, _⟩ := hB.out.b5
            obtain ⟨_, d0, d1, d2, d3, d4, _⟩ := hB.out.to1.b5
            go_wp2_with fail
            refine (HC.out _).mono ?_
            rintro e w2 ⟨rfl, b2⟩
            replace hB := Lib.hid (hB.out.below b2)
            clear b2 c0 c1 c2 c3 c4 d0 d1 d2 d3 d4
            obtain ⟨_, c0, c1, c2, c3, c4, _⟩ := hB.out.b5
            obtain ⟨_, d0, d1, d2, d3, d4, _⟩ := hB.out.to1.b5
            go_wp2_with fail
            refine (HU.out _).mono ?_
            rintro e w3 ⟨rfl, b3⟩
            replace hB := Lib.hid (hB.out.below b3)
            clear b3 c0 c1 c2 c3 c4 d0 d1 d2 d3 d4
            obtain ⟨_, c0, c1, c2, c3, c4, _⟩ := hB.out.b5
            obtain ⟨_, d0, d1, d2, d3, d4, _⟩ := hB.out.to1.b5
            go_wp2_with fail
            refine (HHb.out _).mono ?_
            rintro e w4 ⟨rfl, b4⟩
            replace hB := Lib.hid (hB.out.below b4)
            clear b4 c0 c1 c2 c3 c4 d0 d1 d2 d3 d4
            obtain ⟨_, c0, c1, c2, c3, c4, _⟩ := hB.out.b5
            obtain ⟨_, d0, d1, d2, d3, d4, _⟩ := hB.out.to1.b5
            go_wp2_with fail
            refine (HHa.out _).mono ?_
            rintro e w5 ⟨rfl, b5⟩
            replace hB := Lib.hid (hB.out.below b5)
            clear b5 c0 c1 c2 c3 c4 d0 d1 d2 d3 d4
            obtain ⟨_, c0, c1, c2, c3, c4, _⟩ := hB.out.b5
            obtain ⟨_, d0, d1, d2, d3, d4, _⟩ := hB.out.to1.b5
            go_wp2_with fail
            go_ret
            exact ⟨rfl, hB.out.tail.tail.gold⟩
      | false =>
        have E := Lib.hid (show blocksB ⟨aid, atxn, amode, awant, asince⟩ ⟨bid, btxn, bmode, bwant, bsince⟩ = true by simp [blocksB, upB, h1, h2, h3])
        rw [E.out]
        clear E
        try simp only [upB] at HHa
        try simp only [h1] at HHa
        try simp only [h2] at HHa
        try simp only [h3] at HHa
        try simp only [Bool.true_and] at HHa
        try simp only [Bool.false_and] at HHa
        try simp only [Bool.and_true] at HHa
        try simp only [Bool.and_false] at HHa
        try simp only [upB] at HC
        try simp only [h1] at HC
        try simp only [h2] at HC
        try simp only [h3] at HC
        try simp only [Bool.true_and] at HC
        try simp only [Bool.false_and] at HC
        try simp only [Bool.and_true] at HC
        try simp only [Bool.and_false] at HC
        go_enter Tryz.func51, Tryz.ntmps51
        go_wp2_with fail
        refine (HHa.out _).mono ?_
        rintro e w1 ⟨rfl, b1⟩
        replace hB := Lib.hid (hB.out.below b1)
        clear b1
        obtain ⟨_, c0, c1, c2, c3, c4, _⟩ := hB.out.b5
        obtain ⟨_, d0, d1, d2, d3, d4, _⟩ := hB.out.to1.b5
        go_wp2_with fail
        refine (HC.out _).mono ?_
        rintro e w2 ⟨rfl, b2⟩
        replace hB := Lib.hid (hB.out.below b2)
        clear b2 c0 c1 c2 c3 c4 d0 d1 d2 d3 d4
        obtain ⟨_, c0, c1, c2, c3, c4, _⟩ := hB.out.b5
        obtain ⟨_, d0, d1, d2, d3, d4, _⟩ := hB.out.to1.b5
        go_wp2_with fail
        go_ret
        exact ⟨rfl, hB.out.tail.tail.gold⟩
    | false =>
      cases h3 : bmode != 0 with
      | true =>
        have E := Lib.hid (show blocksB ⟨aid, atxn, amode, awant, asince⟩ ⟨bid, btxn, bmode, bwant, bsince⟩ = false by simp [blocksB, upB, h1, h2, h3])
        rw [E.out]
        clear E
        try simp only [upB] at HHa
        try simp only [h1] at HHa
        try simp only [h2] at HHa
        try simp only [h3] at HHa
        try simp only [Bool.true_and] at HHa
        try simp only [Bool.false_and] at HHa
        try simp only [Bool.and_true] at HHa
        try simp only [Bool.and_false] at HHa
        try simp only [upB] at HU
        try simp only [h1] at HU
        try simp only [h2] at HU
        try simp only [h3] at HU
        try simp only [Bool.true_and] at HU
        try simp only [Bool.false_and] at HU
        try simp only [Bool.and_true] at HU
        try simp only [Bool.and_false] at HU
        try simp only [upB] at HHb
        try simp only [h1] at HHb
        try simp only [h2] at HHb
        try simp only [h3] at HHb
        try simp only [Bool.true_and] at HHb
        try simp only [Bool.false_and] at HHb
        try simp only [Bool.and_true] at HHb
        try simp only [Bool.and_false] at HHb
        go_enter Tryz.func51, Tryz.ntmps51
        go_wp2_with fail
        refine (HHa.out _).mono ?_
        rintro e w1 ⟨rfl, b1⟩
        replace hB := Lib.hid (hB.out.below b1)
        clear b1
        obtain ⟨_, c0, c1, c2, c3, c4, _⟩ := hB.out.b5
        obtain ⟨_, d0, d1, d2, d3, d4, _⟩ := hB.out.to1.b5
        go_wp2_with fail
        refine (HU.out _).mono ?_
        rintro e w2 ⟨rfl, b2⟩
        replace hB := Lib.hid (hB.out.below b2)
        clear b2 c0 c1 c2 c3 c4 d0 d1 d2 d3 d4
        obtain ⟨_, c0, c1, c2, c3, c4, _⟩ := hB.out.b5
        obtain ⟨_, d0, d1, d2, d3, d4, _⟩ := hB.out.to1.b5
        go_wp2_with fail
        refine (HHb.out _).mono ?_
        rintro e w3 ⟨rfl, b3⟩
        replace hB := Lib.hid (hB.out.below b3)
        clear b3 c0 c1 c2 c3 c4 d0 d1 d2 d3 d4
        obtain ⟨_, c0, c1, c2, c3, c4, _⟩ := hB.out.b5
        obtain ⟨_, d0, d1, d2, d3, d4, _⟩ := hB.out.to1.b5
        go_wp2_with fail
        go_ret
        exact ⟨rfl, hB.out.tail.tail.gold⟩
      | false =>
        have E := Lib.hid (show blocksB ⟨aid, atxn, amode, awant, asince⟩ ⟨bid, btxn, bmode, bwant, bsince⟩ = decide (asince < bsince) by simp [blocksB, upB, h1, h2, h3])
        rw [E.out]
        clear E
        try simp only [upB] at HHa
        try simp only [h1] at HHa
        try simp only [h2] at HHa
        try simp only [h3] at HHa
        try simp only [Bool.true_and] at HHa
        try simp only [Bool.false_and] at HHa
        try simp only [Bool.and_true] at HHa
        try simp only [Bool.and_false] at HHa
        try simp only [upB] at HU
        try simp only [h1] at HU
        try simp only [h2] at HU
        try simp only [h3] at HU
        try simp only [Bool.true_and] at HU
        try simp only [Bool.false_and] at HU
        try simp only [Bool.and_true] at HU
        try simp only [Bool.and_false] at HU
        try simp only [upB] at HHb
        try simp only [h1] at HHb
        try simp only [h2] at HHb
        try simp only [h3] at HHb
        try simp only [Bool.true_and] at HHb
        try simp only [Bool.false_and] at HHb
        try simp only [Bool.and_true] at HHb
        try simp only [Bool.and_false] at HHb
        go_enter Tryz.func51, Tryz.ntmps51
        go_wp2_with fail
        refine (HHa.out _).mono ?_
        rintro e w1 ⟨rfl, b1⟩
        replace hB := Lib.hid (hB.out.below b1)
        clear b1
        obtain ⟨_, c0, c1, c2, c3, c4, _⟩ := hB.out.b5
        obtain ⟨_, d0, d1, d2, d3, d4, _⟩ := hB.out.to1.b5
        go_wp2_with fail
        refine (HU.out _).mono ?_
        rintro e w2 ⟨rfl, b2⟩
        replace hB := Lib.hid (hB.out.below b2)
        clear b2 c0 c1 c2 c3 c4 d0 d1 d2 d3 d4
        obtain ⟨_, c0, c1, c2, c3, c4, _⟩ := hB.out.b5
        obtain ⟨_, d0, d1, d2, d3, d4, _⟩ := hB.out.to1.b5
        go_wp2_with fail
        refine (HHb.out _).mono ?_
        rintro e w3 ⟨rfl, b3⟩
        replace hB := Lib.hid (hB.out.below b3)
        clear b3 c0 c1 c2 c3 c4 d0 d1 d2 d3 d4
        obtain ⟨_, c0, c1, c2, c3, c4, _⟩ := hB.out.b5
        obtain ⟨_, d0, d1, d2, d3, d4, _⟩ := hB.out.to1.b5
        go_wp2_with fail
        refine (HHa.out _).mono ?_
        rintro e w4 ⟨rfl, b4⟩
        replace hB := Lib.hid (hB.out.below b4)
        clear b4 c0 c1 c2 c3 c4 d0 d1 d2 d3 d4
        obtain ⟨_, c0, c1, c2, c3, c4, _⟩ := hB.out.b5
        obtain ⟨_, d0, d1, d2, d3, d4, _⟩ := hB.out.to1.b5
        go_wp2_with fail
        go_ret
        exact ⟨rfl, hB.out.tail.tail.gold⟩
theorem RQ.take {w : World} {b off m c k : Nat} {l : List Rq} (h : RQ w (.slice (some ⟨b, off, none⟩) m c) l) (hl : l.length = m) (hk : k ≤ m) : RQ w (.slice (some ⟨b, off, none⟩) k c) (l.take k) := by
  obtain ⟨a, c', hv, hc, hna, hr⟩ := h
  injection hv with e1 e2 e3
  subst e1 e3
  have hlk : (l.take k).length = k := by rw [List.length_take]; omega
  refine ⟨some ⟨b, off, none⟩, c, by rw [hlk], by rw [hlk]; omega, (fun h => by cases h), fun h0 => ?_⟩
  rw [hlk] at h0
  obtain ⟨b', off', ha, hlt, hz⟩ := hr (by omega)
  refine ⟨b', off', ha, hlt, fun j hj => ?_⟩
  rw [hlk] at hj
  have := hz j (by omega)
  rw [show (l.take k).getD j default = l.getD j default by simp [List.getD, List.getElem?_take, hj]]
  exact this
end Go.Proofs.YtcnkmhfcgkbhbaaGreat
namespace Go.Proofs.YtcnkmhfcgkbhbaaGreat
open Go.RowKit Go.Shelf Go.Sort
theorem size_putCells {α : Type} [Inhabited α] (enc : α → Value) (off : Nat) (d : Array α) (c : Array Value) : (putCells enc off d c).size = c.size := by simp [putCells]
theorem putCells_take {α : Type} [Inhabited α] (enc : α → Value) (d : Array α) (c : Array Value) (h : d.size ≤ c.size) : (putCells enc 0 d c).toList.take d.size = d.toList.map enc := by
  apply List.ext_getElem?
  intro j
  rw [List.getElem?_take]
  by_cases hj : j < d.size
  · rw [if_pos hj, Array.getElem?_toList, List.getElem?_map, Array.getElem?_toList, Array.getElem?_eq_getElem hj, Array.getElem?_eq_getElem (by rw [size_putCells]; omega)]
    simp [putCells, hj, getElem!_pos d j hj]
  · rw [if_neg hj, List.getElem?_eq_none (by simpa using hj)]
theorem heap_row {α : Type} [Inhabited α] (enc : α → Value) (w : World) (g m : Nat) (d : Array α) (os : Array Obj) (b : Nat) (hb : b < w.heap.size) :
    (grow (putRow enc (Go.Sort.ahead w m) g 0 d) os).heap[b]? = if g = b then (w.heap[b]?).map (onCells (putCells enc 0 d)) else w.heap[b]? := by
  simp only [grow, putRow, mapBlock, Go.Sort.ahead]
  rw [Array.getElem?_append_left (by simpa using hb), Array.getElem?_modify]
theorem Sep.blk_row {α : Type} [Inhabited α] {w : World} {g : Nat} {t : TypeId} {cs : Array Value} {rs : List Res} (h : Sep w (blk g t cs :: rs)) (enc : α → Value) (m : Nat) (d : Array α) (os : Array Obj) :
    Sep (grow (putRow enc (Go.Sort.ahead w m) g 0 d) os) (blk g t (putCells enc 0 d cs) :: rs) := by
  obtain ⟨A, h1, h2⟩ := h.open_
  have hlt := h1.2.lt
  have hsz : (grow (putRow enc (Go.Sort.ahead w m) g 0 d) os).heap.size = w.heap.size + os.size := by simp [grow, putRow, mapBlock, Go.Sort.ahead]
  refine h2 _ _ A ⟨h1.1, ?_⟩ ⟨rfl, rfl, rfl, by rw [hsz]; omega, fun b hb hA => ?_⟩ (fun b hb => .inl hb)
  · show (grow (putRow enc (Go.Sort.ahead w m) g 0 d) os).heap[g]? = _
    rw [heap_row enc w g m d os g hlt, if_pos rfl, show w.heap[g]? = _ from h1.2]
    rfl
  · rw [heap_row enc w g m d os b hb, if_neg]
    intro hgb
    exact hA ((h1.1 b).2 hgb.symm)
theorem Sep.vec_row {α : Type} [Inhabited α] {w : World} {e : TypeId} {size n g c : Nat} {xs : List Value} {rs : List Res} (h : Sep w (vec e size (.slice (some ⟨g, 0, none⟩) n c) n xs :: rs)) (enc : α → Value) (m : Nat) (d : Array α) (os : Array Obj) (hd : d.size = n * size) :
    Sep (grow (putRow enc (Go.Sort.ahead w m) g 0 d) os) (vec e size (.slice (some ⟨g, 0, none⟩) n c) n (d.toList.map enc) :: rs) := by
  obtain ⟨cur, hS, hnc, hcm, hcs, ht⟩ := h.vec_blk
  have hle : d.size ≤ cur.size := by rw [hd, hcs]; exact Nat.mul_le_mul_right _ hnc
  refine (hS.blk_row enc m d os).blk_vec (by simpa using hd) hnc hcm (by rw [size_putCells]; exact hcs) ?_
  rw [← hd]
  exact putCells_take enc d cur hle
theorem flatK_list {α : Type} [Inhabited α] (enc : α → List Value) (k : Nat) (hk : ∀ x, (enc x).length = k) (d : Array α) : (flatK enc k d).toList = d.toList.flatMap enc := by
  have hl := flat_len enc k hk d.toList
  have hs := size_flatK enc k d
  apply List.ext_getElem?
  intro j
  by_cases hj : j < d.size * k
  · have k0 : 0 < k := by
      rcases Nat.eq_zero_or_pos k with h | h
      · subst h; simp at hj
      · exact h
    have hq : j / k < d.size := Nat.div_lt_of_lt_mul (by rw [Nat.mul_comm]; exact hj)
    have h1 := get_flatK enc k d j hj
    have hjs : j < (flatK enc k d).size := by rw [hs]; exact hj
    rw [getElem!_pos _ j hjs] at h1
    have h2 := flat_at enc k hk d.toList (j / k) (j % k) d[j / k] (by simp [hq]) (Nat.mod_lt _ k0)
    rw [show j / k * k + j % k = j by rw [Nat.mul_comm]; exact Nat.div_add_mod j k] at h2
    rw [h2, Array.getElem?_toList, Array.getElem?_eq_getElem hjs, h1, getElem!_pos d (j / k) hq]
    have hm : j % k < (enc d[j / k]).length := by rw [hk]; exact Nat.mod_lt _ k0
    rw [getElem!_pos _ (j % k) hm, List.getElem?_eq_getElem hm]
  · rw [List.getElem?_eq_none (by simpa [hs] using hj), List.getElem?_eq_none (by rw [hl]; simpa using hj)]
theorem perm_list {α : Type} [Inhabited α] {d d' : Array α} (h : PermIn 0 d.size d d') : d'.size = d.size ∧ d'.toList.Perm d.toList := by
  refine ⟨h.1, ?_⟩
  have := h.2.2
  rw [show d.extract 0 d.size = d by simp, ← h.1, show d'.extract 0 d'.size = d' by simp] at this
  exact this
theorem sorted_list {α : Type} [Inhabited α] {lt : α → α → Bool} {d d' : Array α} (hs : d'.size = d.size) (h : SortedIn lt 0 d.size d') : d'.toList.Pairwise fun a b => lt b a = false := by
  rw [List.pairwise_iff_getElem]
  intro i j hi hj hij
  have h1 : i < d'.size := by simpa using hi
  have h2 : j < d'.size := by simpa using hj
  have := h i j (Nat.zero_le _) hij (by omega)
  rw [getElem!_pos d' j h2, getElem!_pos d' i h1] at this
  simpa using this
/-- A row of one cell each, held. -/
theorem Sep.vec_holds1 {α : Type} [Inhabited α] {w : World} {e : TypeId} {n g c : Nat} {rs : List Res} (enc : α → Value) (l : List α) (h : Sep w (vec e 1 (.slice (some ⟨g, 0, none⟩) n c) n (l.map enc) :: rs)) (_hl : l.length = n) : Holds enc w g 0 l.toArray ∧ g < w.heap.size := by
  refine ⟨fun j hj => ?_, ?_⟩
  · have hj' : j < l.length := by simpa using hj
    have := h.vec_cell (k := j) (u := enc l[j]) (by rw [List.getElem?_map, List.getElem?_eq_getElem hj']; rfl)
    rw [Nat.zero_add, getElem!_pos _ j hj]
    exact ⟨by simpa using this.1, this.2.1⟩
  · obtain ⟨cur, hS, _⟩ := h.vec_blk
    exact hS.gblk.lt
theorem Sep.vec_holdsK {α : Type} [Inhabited α] {w : World} {e : TypeId} {n g c k : Nat} {rs : List Res} (enc : α → List Value) (hk : ∀ x, (enc x).length = k) (l : List α) (h : Sep w (vec e k (.slice (some ⟨g, 0, none⟩) n c) n (l.flatMap enc) :: rs)) : HoldsK enc k w g 0 l.toArray ∧ g < w.heap.size := by
  refine ⟨fun j hj => ?_, ?_⟩
  · have hL := flatK_list enc k hk l.toArray
    have hg : (flatK enc k l.toArray).toList[j]? = some ((flatK enc k l.toArray)[j]!) := by
      rw [Array.getElem?_toList, Array.getElem?_eq_getElem hj, getElem!_pos _ j hj]
    rw [hL] at hg
    have := h.vec_cell (k := j) hg
    rw [Nat.zero_add]
    exact ⟨this.1, this.2.1⟩
  · obtain ⟨cur, hS, _⟩ := h.vec_blk
    exact hS.gblk.lt
theorem swo_int : SWO (ltOf Lib.compareInt) := by
  have h : ∀ x y : Int, ltOf Lib.compareInt x y = decide (x < y) := fun x y => by
    unfold ltOf Lib.compareInt
    by_cases h1 : x < y
    · simp [h1]
    · by_cases h2 : y < x <;> simp [h1, h2]
  exact ⟨fun x => by rw [h]; simp, fun x y z h1 h2 => by rw [h] at *; simp at *; omega, fun x y z h1 h2 => by rw [h] at *; simp at *; omega⟩
theorem lt_int (x y : Int) : ltOf Lib.compareInt x y = decide (x < y) := by
  unfold ltOf Lib.compareInt
  by_cases h1 : x < y
  · simp [h1]
  · by_cases h2 : y < x <;> simp [h1, h2]
end Go.Proofs.YtcnkmhfcgkbhbaaGreat
