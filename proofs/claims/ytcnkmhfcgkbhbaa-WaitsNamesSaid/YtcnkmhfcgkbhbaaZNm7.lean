/-
  Contracts and plain laws that the walk leans on, part 7. No condition.
-/
import Derived.Test.YtcnkmhfcgkbhbaaZNm6
import Derived.ProofKit
import Derived.OpenShut
import Derived.ShutString
import Derived.ChangeOld
import Derived.ChangeSame
import Derived.Deep.Slices
import Derived.Deep.Fields
import Derived.Lib.SmallJoins
import Derived.Deep.Strs
namespace Go.Proofs.Ytcnkmhfcgkbhbaa
set_option linter.unusedSimpArgs false
set_option linter.unusedVariables false
set_option linter.unnecessarySimpa false
open Go.RowKit
def blocksB (a b : Rq) : Bool := if a.id == b.id then false else if a.mode != 0 && !comB a.mode b.want then true else if upB a then (!(b.mode != 0) || decide (a.since < b.since)) else (!(b.mode != 0) && (!(a.mode != 0) && decide (a.since < b.since)))
set_option maxHeartbeats 1000000 in
theorem blocks_any (a b : Rq) (w : World) : Calls Try.prog 49 #[a.val, b.val] w fun e w' => e = .returned (.bool (blocksB a b)) ∧ Below w.heap.size w w' := by
  have HHa := Lib.hid (fun W => holds_any a W)
  have HHb := Lib.hid (fun W => holds_any b W)
  have HC := Lib.hid (fun W => compat_any a.mode b.want W)
  have HU := Lib.hid (fun W => upgrades_any a W)
  obtain ⟨aid, atxn, amode, awant, asince⟩ := a
  obtain ⟨bid, btxn, bmode, bwant, bsince⟩ := b
  have hB := Lib.hid (boxes2 w 39 39 #[.int .i64 aid, .int .i64 atxn, .int .i64 amode, .int .i64 awant, .int .i64 asince] #[.int .i64 bid, .int .i64 btxn, .int .i64 bmode, .int .i64 bwant, .int .i64 bsince])
  unfold Rq.val at *
  simp only at *
  cases h1 : aid == bid with
  | true =>
    have E := Lib.hid (show blocksB ⟨aid, atxn, amode, awant, asince⟩ ⟨bid, btxn, bmode, bwant, bsince⟩ = false by simp [blocksB, upB, h1])
    rw [E.out]
    clear E
    go_enter Try.func49, Try.ntmps49
    go_wp2_with fail
    go_ret
    exact ⟨rfl, hB.out.tail.tail.gold⟩
  | false =>
    cases h2 : amode != 0 with
    | true =>
      cases h3 : comB amode bwant with
      | true =>
        cases h4 : decide (0 < asince) with
        | true =>
          cases h5 : bmode != 0 with
          | true =>
            have E := Lib.hid (show blocksB ⟨aid, atxn, amode, awant, asince⟩ ⟨bid, btxn, bmode, bwant, bsince⟩ = decide (asince < bsince) by simp [blocksB, upB, h1, h2, h3, h4, h5])
            rw [E.out]
            clear E
            try simp only [upB] at HHa
            try simp only [h1] at HHa
            try simp only [h2] at HHa
            try simp only [h3] at HHa
            try simp only [h4] at HHa
            try simp only [h5] at HHa
            try simp only [Bool.true_and] at HHa
            try simp only [Bool.false_and] at HHa
            try simp only [Bool.and_true] at HHa
            try simp only [Bool.and_false] at HHa
            try simp only [upB] at HC
            try simp only [h1] at HC
            try simp only [h2] at HC
            try simp only [h3] at HC
            try simp only [h4] at HC
            try simp only [h5] at HC
            try simp only [Bool.true_and] at HC
            try simp only [Bool.false_and] at HC
            try simp only [Bool.and_true] at HC
            try simp only [Bool.and_false] at HC
            try simp only [upB] at HU
            try simp only [h1] at HU
            try simp only [h2] at HU
            try simp only [h3] at HU
            try simp only [h4] at HU
            try simp only [h5] at HU
            try simp only [Bool.true_and] at HU
            try simp only [Bool.false_and] at HU
            try simp only [Bool.and_true] at HU
            try simp only [Bool.and_false] at HU
            try simp only [upB] at HHb
            try simp only [h1] at HHb
            try simp only [h2] at HHb
            try simp only [h3] at HHb
            try simp only [h4] at HHb
            try simp only [h5] at HHb
            try simp only [Bool.true_and] at HHb
            try simp only [Bool.false_and] at HHb
            try simp only [Bool.and_true] at HHb
            try simp only [Bool.and_false] at HHb
            go_enter Try.func49, Try.ntmps49
            go_wp2_with fail
            refine (HHa.out _).mono ?_
            rintro e w1 ⟨rfl, b1⟩
            replace hB := Lib.hid (hB.out.below b1)
            clear b1
            obtain ⟨_, c0, c1, c2, c3, c4, _⟩ := hB.out.b5
            obtain ⟨_, d0, d1, d2, d3, d4, _⟩ := hB.out.to1.b5
            go_wp2_with fail
            refine (HC.out _).mono ?_
            rintro e w2 ⟨rfl, b2⟩
            replace hB := Lib.hid (hB.out.below b2)
            clear b2 c0 c1 c2 c3 c4 d0 d1 d2 d3 d4
            obtain ⟨_, c0, c1, c2, c3, c4, _⟩ := hB.out.b5
            obtain ⟨_, d0, d1, d2, d3, d4, _⟩ := hB.out.to1.b5
            go_wp2_with fail
            refine (HU.out _).mono ?_
            rintro e w3 ⟨rfl, b3⟩
            replace hB := Lib.hid (hB.out.below b3)
            clear b3 c0 c1 c2 c3 c4 d0 d1 d2 d3 d4
            obtain ⟨_, c0, c1, c2, c3, c4, _⟩ := hB.out.b5
            obtain ⟨_, d0, d1, d2, d3, d4, _⟩ := hB.out.to1.b5
            go_wp2_with fail
            refine (HHb.out _).mono ?_
            rintro e w4 ⟨rfl, b4⟩
            replace hB := Lib.hid (hB.out.below b4)
            clear b4 c0 c1 c2 c3 c4 d0 d1 d2 d3 d4
            obtain ⟨_, c0, c1, c2, c3, c4, _⟩ := hB.out.b5
            obtain ⟨_, d0, d1, d2, d3, d4, _⟩ := hB.out.to1.b5
            go_wp2_with fail
            go_ret
            exact ⟨rfl, hB.out.tail.tail.gold⟩
          | false =>
            have E := Lib.hid (show blocksB ⟨aid, atxn, amode, awant, asince⟩ ⟨bid, btxn, bmode, bwant, bsince⟩ = true by simp [blocksB, upB, h1, h2, h3, h4, h5])
            rw [E.out]
            clear E
            try simp only [upB] at HHa
            try simp only [h1] at HHa
            try simp only [h2] at HHa
            try simp only [h3] at HHa
            try simp only [h4] at HHa
            try simp only [h5] at HHa
            try simp only [Bool.true_and] at HHa
            try simp only [Bool.false_and] at HHa
            try simp only [Bool.and_true] at HHa
            try simp only [Bool.and_false] at HHa
            try simp only [upB] at HC
            try simp only [h1] at HC
            try simp only [h2] at HC
            try simp only [h3] at HC
            try simp only [h4] at HC
            try simp only [h5] at HC
            try simp only [Bool.true_and] at HC
            try simp only [Bool.false_and] at HC
            try simp only [Bool.and_true] at HC
            try simp only [Bool.and_false] at HC
            try simp only [upB] at HU
            try simp only [h1] at HU
            try simp only [h2] at HU
            try simp only [h3] at HU
            try simp only [h4] at HU
            try simp only [h5] at HU
            try simp only [Bool.true_and] at HU
            try simp only [Bool.false_and] at HU
            try simp only [Bool.and_true] at HU
            try simp only [Bool.and_false] at HU
            try simp only [upB] at HHb
            try simp only [h1] at HHb
            try simp only [h2] at HHb
            try simp only [h3] at HHb
            try simp only [h4] at HHb
            try simp only [h5] at HHb
            try simp only [Bool.true_and] at HHb
            try simp only [Bool.false_and] at HHb
            try simp only [Bool.and_true] at HHb
            try simp only [Bool.and_false] at HHb
            go_enter Try.func49, Try.ntmps49
            go_wp2_with fail
            refine (HHa.out _).mono ?_
            rintro e w1 ⟨rfl, b1⟩
            replace hB := Lib.hid (hB.out.below b1)
            clear b1
            obtain ⟨_, c0, c1, c2, c3, c4, _⟩ := hB.out.b5
            obtain ⟨_, d0, d1, d2, d3, d4, _⟩ := hB.out.to1.b5
            go_wp2_with fail
            refine (HC.out _).mono ?_
            rintro e w2 ⟨rfl, b2⟩
            replace hB := Lib.hid (hB.out.below b2)
            clear b2 c0 c1 c2 c3 c4 d0 d1 d2 d3 d4
            obtain ⟨_, c0, c1, c2, c3, c4, _⟩ := hB.out.b5
            obtain ⟨_, d0, d1, d2, d3, d4, _⟩ := hB.out.to1.b5
            go_wp2_with fail
            refine (HU.out _).mono ?_
            rintro e w3 ⟨rfl, b3⟩
            replace hB := Lib.hid (hB.out.below b3)
            clear b3 c0 c1 c2 c3 c4 d0 d1 d2 d3 d4
            obtain ⟨_, c0, c1, c2, c3, c4, _⟩ := hB.out.b5
            obtain ⟨_, d0, d1, d2, d3, d4, _⟩ := hB.out.to1.b5
            go_wp2_with fail
            refine (HHb.out _).mono ?_
            rintro e w4 ⟨rfl, b4⟩
            replace hB := Lib.hid (hB.out.below b4)
            clear b4 c0 c1 c2 c3 c4 d0 d1 d2 d3 d4
            obtain ⟨_, c0, c1, c2, c3, c4, _⟩ := hB.out.b5
            obtain ⟨_, d0, d1, d2, d3, d4, _⟩ := hB.out.to1.b5
            go_wp2_with fail
            go_ret
            exact ⟨rfl, hB.out.tail.tail.gold⟩
        | false =>
          cases h5 : bmode != 0 with
          | true =>
            have E := Lib.hid (show blocksB ⟨aid, atxn, amode, awant, asince⟩ ⟨bid, btxn, bmode, bwant, bsince⟩ = false by simp [blocksB, upB, h1, h2, h3, h4, h5])
            rw [E.out]
            clear E
            try simp only [upB] at HHa
            try simp only [h1] at HHa
            try simp only [h2] at HHa
            try simp only [h3] at HHa
            try simp only [h4] at HHa
            try simp only [h5] at HHa
            try simp only [Bool.true_and] at HHa
            try simp only [Bool.false_and] at HHa
            try simp only [Bool.and_true] at HHa
            try simp only [Bool.and_false] at HHa
            try simp only [upB] at HC
            try simp only [h1] at HC
            try simp only [h2] at HC
            try simp only [h3] at HC
            try simp only [h4] at HC
            try simp only [h5] at HC
            try simp only [Bool.true_and] at HC
            try simp only [Bool.false_and] at HC
            try simp only [Bool.and_true] at HC
            try simp only [Bool.and_false] at HC
            try simp only [upB] at HU
            try simp only [h1] at HU
            try simp only [h2] at HU
            try simp only [h3] at HU
            try simp only [h4] at HU
            try simp only [h5] at HU
            try simp only [Bool.true_and] at HU
            try simp only [Bool.false_and] at HU
            try simp only [Bool.and_true] at HU
            try simp only [Bool.and_false] at HU
            try simp only [upB] at HHb
            try simp only [h1] at HHb
            try simp only [h2] at HHb
            try simp only [h3] at HHb
            try simp only [h4] at HHb
            try simp only [h5] at HHb
            try simp only [Bool.true_and] at HHb
            try simp only [Bool.false_and] at HHb
            try simp only [Bool.and_true] at HHb
            try simp only [Bool.and_false] at HHb
            go_enter Try.func49, Try.ntmps49
            go_wp2_with fail
            refine (HHa.out _).mono ?_
            rintro e w1 ⟨rfl, b1⟩
            replace hB := Lib.hid (hB.out.below b1)
            clear b1
            obtain ⟨_, c0, c1, c2, c3, c4, _⟩ := hB.out.b5
            obtain ⟨_, d0, d1, d2, d3, d4, _⟩ := hB.out.to1.b5
            go_wp2_with fail
            refine (HC.out _).mono ?_
            rintro e w2 ⟨rfl, b2⟩
            replace hB := Lib.hid (hB.out.below b2)
            clear b2 c0 c1 c2 c3 c4 d0 d1 d2 d3 d4
            obtain ⟨_, c0, c1, c2, c3, c4, _⟩ := hB.out.b5
            obtain ⟨_, d0, d1, d2, d3, d4, _⟩ := hB.out.to1.b5
            go_wp2_with fail
            refine (HU.out _).mono ?_
            rintro e w3 ⟨rfl, b3⟩
            replace hB := Lib.hid (hB.out.below b3)
            clear b3 c0 c1 c2 c3 c4 d0 d1 d2 d3 d4
            obtain ⟨_, c0, c1, c2, c3, c4, _⟩ := hB.out.b5
            obtain ⟨_, d0, d1, d2, d3, d4, _⟩ := hB.out.to1.b5
            go_wp2_with fail
            refine (HHb.out _).mono ?_
            rintro e w4 ⟨rfl, b4⟩
            replace hB := Lib.hid (hB.out.below b4)
            clear b4 c0 c1 c2 c3 c4 d0 d1 d2 d3 d4
            obtain ⟨_, c0, c1, c2, c3, c4, _⟩ := hB.out.b5
            obtain ⟨_, d0, d1, d2, d3, d4, _⟩ := hB.out.to1.b5
            go_wp2_with fail
            go_ret
            exact ⟨rfl, hB.out.tail.tail.gold⟩
          | false =>
            have E := Lib.hid (show blocksB ⟨aid, atxn, amode, awant, asince⟩ ⟨bid, btxn, bmode, bwant, bsince⟩ = false by simp [blocksB, upB, h1, h2, h3, h4, h5])
            rw [E.out]
            clear E
            try simp only [upB] at HHa
            try simp only [h1] at HHa
            try simp only [h2] at HHa
            try simp only [h3] at HHa
            try simp only [h4] at HHa
            try simp only [h5] at HHa
            try simp only [Bool.true_and] at HHa
            try simp only [Bool.false_and] at HHa
            try simp only [Bool.and_true] at HHa
            try simp only [Bool.and_false] at HHa
            try simp only [upB] at HC
            try simp only [h1] at HC
            try simp only [h2] at HC
            try simp only [h3] at HC
            try simp only [h4] at HC
            try simp only [h5] at HC
            try simp only [Bool.true_and] at HC
            try simp only [Bool.false_and] at HC
            try simp only [Bool.and_true] at HC
            try simp only [Bool.and_false] at HC
            try simp only [upB] at HU
            try simp only [h1] at HU
            try simp only [h2] at HU
            try simp only [h3] at HU
            try simp only [h4] at HU
            try simp only [h5] at HU
            try simp only [Bool.true_and] at HU
            try simp only [Bool.false_and] at HU
            try simp only [Bool.and_true] at HU
            try simp only [Bool.and_false] at HU
            try simp only [upB] at HHb
            try simp only [h1] at HHb
            try simp only [h2] at HHb
            try simp only [h3] at HHb
            try simp only [h4] at HHb
            try simp only [h5] at HHb
            try simp only [Bool.true_and] at HHb
            try simp only [Bool.false_and] at HHb
            try simp only [Bool.and_true] at HHb
            try simp only [Bool.and_false] at HHb
            go_enter Try.func49, Try.ntmps49
            go_wp2_with fail
            refine (HHa.out _).mono ?_
            rintro e w1 ⟨rfl, b1⟩
            replace hB := Lib.hid (hB.out.below b1)
            clear b1
            obtain ⟨_, c0, c1, c2, c3, c4, _⟩ := hB.out.b5
            obtain ⟨_, d0, d1, d2, d3, d4, _⟩ := hB.out.to1.b5
            go_wp2_with fail
            refine (HC.out _).mono ?_
            rintro e w2 ⟨rfl, b2⟩
            replace hB := Lib.hid (hB.out.below b2)
            clear b2 c0 c1 c2 c3 c4 d0 d1 d2 d3 d4
            obtain ⟨_, c0, c1, c2, c3, c4, _⟩ := hB.out.b5
            obtain ⟨_, d0, d1, d2, d3, d4, _⟩ := hB.out.to1.b5
            go_wp2_with fail
            refine (HU.out _).mono ?_
            rintro e w3 ⟨rfl, b3⟩
            replace hB := Lib.hid (hB.out.below b3)
            clear b3 c0 c1 c2 c3 c4 d0 d1 d2 d3 d4
            obtain ⟨_, c0, c1, c2, c3, c4, _⟩ := hB.out.b5
            obtain ⟨_, d0, d1, d2, d3, d4, _⟩ := hB.out.to1.b5
            go_wp2_with fail
            refine (HHb.out _).mono ?_
            rintro e w4 ⟨rfl, b4⟩
            replace hB := Lib.hid (hB.out.below b4)
            clear b4 c0 c1 c2 c3 c4 d0 d1 d2 d3 d4
            obtain ⟨_, c0, c1, c2, c3, c4, _⟩ := hB.out.b5
            obtain ⟨_, d0, d1, d2, d3, d4, _⟩ := hB.out.to1.b5
            go_wp2_with fail
            refine (HHa.out _).mono ?_
            rintro e w5 ⟨rfl, b5⟩
            replace hB := Lib.hid (hB.out.below b5)
            clear b5 c0 c1 c2 c3 c4 d0 d1 d2 d3 d4
            obtain ⟨_, c0, c1, c2, c3, c4, _⟩ := hB.out.b5
            obtain ⟨_, d0, d1, d2, d3, d4, _⟩ := hB.out.to1.b5
            go_wp2_with fail
            go_ret
            exact ⟨rfl, hB.out.tail.tail.gold⟩
      | false =>
        have E := Lib.hid (show blocksB ⟨aid, atxn, amode, awant, asince⟩ ⟨bid, btxn, bmode, bwant, bsince⟩ = true by simp [blocksB, upB, h1, h2, h3])
        rw [E.out]
        clear E
        try simp only [upB] at HHa
        try simp only [h1] at HHa
        try simp only [h2] at HHa
        try simp only [h3] at HHa
        try simp only [Bool.true_and] at HHa
        try simp only [Bool.false_and] at HHa
        try simp only [Bool.and_true] at HHa
        try simp only [Bool.and_false] at HHa
        try simp only [upB] at HC
        try simp only [h1] at HC
        try simp only [h2] at HC
        try simp only [h3] at HC
        try simp only [Bool.true_and] at HC
        try simp only [Bool.false_and] at HC
        try simp only [Bool.and_true] at HC
        try simp only [Bool.and_false] at HC
        go_enter Try.func49, Try.ntmps49
        go_wp2_with fail
        refine (HHa.out _).mono ?_
        rintro e w1 ⟨rfl, b1⟩
        replace hB := Lib.hid (hB.out.below b1)
        clear b1
        obtain ⟨_, c0, c1, c2, c3, c4, _⟩ := hB.out.b5
        obtain ⟨_, d0, d1, d2, d3, d4, _⟩ := hB.out.to1.b5
        go_wp2_with fail
        refine (HC.out _).mono ?_
        rintro e w2 ⟨rfl, b2⟩
        replace hB := Lib.hid (hB.out.below b2)
        clear b2 c0 c1 c2 c3 c4 d0 d1 d2 d3 d4
        obtain ⟨_, c0, c1, c2, c3, c4, _⟩ := hB.out.b5
        obtain ⟨_, d0, d1, d2, d3, d4, _⟩ := hB.out.to1.b5
        go_wp2_with fail
        go_ret
        exact ⟨rfl, hB.out.tail.tail.gold⟩
    | false =>
      cases h3 : bmode != 0 with
      | true =>
        have E := Lib.hid (show blocksB ⟨aid, atxn, amode, awant, asince⟩ ⟨bid, btxn, bmode, bwant, bsince⟩ = false by simp [blocksB, upB, h1, h2, h3])
        rw [E.out]
        clear E
        try simp only [upB] at HHa
        try simp only [h1] at HHa
        try simp only [h2] at HHa
        try simp only [h3] at HHa
        try simp only [Bool.true_and] at HHa
        try simp only [Bool.false_and] at HHa
        try simp only [Bool.and_true] at HHa
        try simp only [Bool.and_false] at HHa
        try simp only [upB] at HU
        try simp only [h1] at HU
        try simp only [h2] at HU
        try simp only [h3] at HU
        try simp only [Bool.true_and] at HU
        try simp only [Bool.false_and] at HU
        try simp only [Bool.and_true] at HU
        try simp only [Bool.and_false] at HU
        try simp only [upB] at HHb
        try simp only [h1] at HHb
        try simp only [h2] at HHb
        try simp only [h3] at HHb
        try simp only [Bool.true_and] at HHb
        try simp only [Bool.false_and] at HHb
        try simp only [Bool.and_true] at HHb
        try simp only [Bool.and_false] at HHb
        go_enter Try.func49, Try.ntmps49
        go_wp2_with fail
        refine (HHa.out _).mono ?_
        rintro e w1 ⟨rfl, b1⟩
        replace hB := Lib.hid (hB.out.below b1)
        clear b1
        obtain ⟨_, c0, c1, c2, c3, c4, _⟩ := hB.out.b5
        obtain ⟨_, d0, d1, d2, d3, d4, _⟩ := hB.out.to1.b5
        go_wp2_with fail
        refine (HU.out _).mono ?_
        rintro e w2 ⟨rfl, b2⟩
        replace hB := Lib.hid (hB.out.below b2)
        clear b2 c0 c1 c2 c3 c4 d0 d1 d2 d3 d4
        obtain ⟨_, c0, c1, c2, c3, c4, _⟩ := hB.out.b5
        obtain ⟨_, d0, d1, d2, d3, d4, _⟩ := hB.out.to1.b5
        go_wp2_with fail
        refine (HHb.out _).mono ?_
        rintro e w3 ⟨rfl, b3⟩
        replace hB := Lib.hid (hB.out.below b3)
        clear b3 c0 c1 c2 c3 c4 d0 d1 d2 d3 d4
        obtain ⟨_, c0, c1, c2, c3, c4, _⟩ := hB.out.b5
        obtain ⟨_, d0, d1, d2, d3, d4, _⟩ := hB.out.to1.b5
        go_wp2_with fail
        go_ret
        exact ⟨rfl, hB.out.tail.tail.gold⟩
      | false =>
        have E := Lib.hid (show blocksB ⟨aid, atxn, amode, awant, asince⟩ ⟨bid, btxn, bmode, bwant, bsince⟩ = decide (asince < bsince) by simp [blocksB, upB, h1, h2, h3])
        rw [E.out]
        clear E
        try simp only [upB] at HHa
        try simp only [h1] at HHa
        try simp only [h2] at HHa
        try simp only [h3] at HHa
        try simp only [Bool.true_and] at HHa
        try simp only [Bool.false_and] at HHa
        try simp only [Bool.and_true] at HHa
        try simp only [Bool.and_false] at HHa
        try simp only [upB] at HU
        try simp only [h1] at HU
        try simp only [h2] at HU
        try simp only [h3] at HU
        try simp only [Bool.true_and] at HU
        try simp only [Bool.false_and] at HU
        try simp only [Bool.and_true] at HU
        try simp only [Bool.and_false] at HU
        try simp only [upB] at HHb
        try simp only [h1] at HHb
        try simp only [h2] at HHb
        try simp only [h3] at HHb
        try simp only [Bool.true_and] at HHb
        try simp only [Bool.false_and] at HHb
        try simp only [Bool.and_true] at HHb
        try simp only [Bool.and_false] at HHb
        go_enter Try.func49, Try.ntmps49
        go_wp2_with fail
        refine (HHa.out _).mono ?_
        rintro e w1 ⟨rfl, b1⟩
        replace hB := Lib.hid (hB.out.below b1)
        clear b1
        obtain ⟨_, c0, c1, c2, c3, c4, _⟩ := hB.out.b5
        obtain ⟨_, d0, d1, d2, d3, d4, _⟩ := hB.out.to1.b5
        go_wp2_with fail
        refine (HU.out _).mono ?_
        rintro e w2 ⟨rfl, b2⟩
        replace hB := Lib.hid (hB.out.below b2)
        clear b2 c0 c1 c2 c3 c4 d0 d1 d2 d3 d4
        obtain ⟨_, c0, c1, c2, c3, c4, _⟩ := hB.out.b5
        obtain ⟨_, d0, d1, d2, d3, d4, _⟩ := hB.out.to1.b5
        go_wp2_with fail
        refine (HHb.out _).mono ?_
        rintro e w3 ⟨rfl, b3⟩
        replace hB := Lib.hid (hB.out.below b3)
        clear b3 c0 c1 c2 c3 c4 d0 d1 d2 d3 d4
        obtain ⟨_, c0, c1, c2, c3, c4, _⟩ := hB.out.b5
        obtain ⟨_, d0, d1, d2, d3, d4, _⟩ := hB.out.to1.b5
        go_wp2_with fail
        refine (HHa.out _).mono ?_
        rintro e w4 ⟨rfl, b4⟩
        replace hB := Lib.hid (hB.out.below b4)
        clear b4 c0 c1 c2 c3 c4 d0 d1 d2 d3 d4
        obtain ⟨_, c0, c1, c2, c3, c4, _⟩ := hB.out.b5
        obtain ⟨_, d0, d1, d2, d3, d4, _⟩ := hB.out.to1.b5
        go_wp2_with fail
        go_ret
        exact ⟨rfl, hB.out.tail.tail.gold⟩
theorem RQ.take {w : World} {b off m c k : Nat} {l : List Rq} (h : RQ w (.slice (some ⟨b, off, none⟩) m c) l) (hl : l.length = m) (hk : k ≤ m) : RQ w (.slice (some ⟨b, off, none⟩) k c) (l.take k) := by
  obtain ⟨a, c', hv, hc, hna, hr⟩ := h
  injection hv with e1 e2 e3
  subst e1 e3
  have hlk : (l.take k).length = k := by rw [List.length_take]; omega
  refine ⟨some ⟨b, off, none⟩, c, by rw [hlk], by rw [hlk]; omega, (fun h => by cases h), fun h0 => ?_⟩
  rw [hlk] at h0
  obtain ⟨b', off', ha, hlt, hz⟩ := hr (by omega)
  refine ⟨b', off', ha, hlt, fun j hj => ?_⟩
  rw [hlk] at hj
  have := hz j (by omega)
  rw [show (l.take k).getD j default = l.getD j default by simp [List.getD, List.getElem?_take, hj]]
  exact this
end Go.Proofs.Ytcnkmhfcgkbhbaa
namespace Go.Proofs.Ytcnkmhfcgkbhbaa
set_option linter.unusedSimpArgs false
set_option linter.unusedVariables false
set_option linter.unnecessarySimpa false
open Go.RowKit
theorem compactInts_any (a : Option Addr) (n c : Nat) (xs : List Int) (w : World) (rs : List Res) (hS : Sep w (vec 3 1 (.slice a n c) n (xs.map (Value.int .i64)) :: rs)) (hl : xs.length = n) (hn : n ≤ 1000000) :
    Calls Try.prog 52 #[.slice a n c] w fun e w' => e = .returned (.slice a (Lib.compact xs).length c) ∧ Sep w' (vec 3 1 (.slice a (Lib.compact xs).length c) (Lib.compact xs).length ((Lib.compact xs).map (Value.int .i64)) :: rs) := by
  rcases Nat.eq_zero_or_pos n with h0 | h0
  · subst h0
    have hx := List.eq_nil_of_length_eq_zero hl
    subst hx
    refine (Any.slices_Compact_int_empty Try.compactInts a c w).mono ?_
    rintro e w' ⟨rfl, rfl⟩
    exact ⟨rfl, hS⟩
  · obtain ⟨g, rfl⟩ : ∃ g, a = some ⟨g, 0, none⟩ := by
      rcases hS.gvec.2 with ⟨_, h1⟩ | ⟨g, cap, cur, hv, _⟩
      · omega
      · injection hv with e1 _ _
        exact ⟨g, e1⟩
    obtain ⟨hH, hg⟩ := hS.vec_holds1 (Value.int .i64) xs hl
    obtain ⟨_, _, hnc, hcm, _⟩ := hS.vec_blk
    have hcl : (Lib.compact xs).length ≤ xs.length := by
      unfold Lib.compact Lib.compactUpTo
      rw [List.length_map]
      exact Nat.le_trans (List.length_filter_le _ _) (by simp)
    have hcon := Any.slices_Compact_int Try.compactInts g 0 c xs w hH (by omega) (by omega)
    subst hl
    refine Calls.mono (show Calls Try.prog 52 _ w _ from hcon) ?_
    rintro e w' ⟨rfl, q, rfl⟩
    refine ⟨rfl, ?_⟩
    have h2 := hS.vec_row (Value.int .i64) q (Lib.compact xs ++ List.replicate (xs.length - (Lib.compact xs).length) 0).toArray #[] (by simp; omega)
    rw [Go.Sort.grow_empty] at h2
    have h3 := h2.vec_shrink hcl
    have e : ((Lib.compact xs ++ List.replicate (xs.length - (Lib.compact xs).length) 0).toArray.toList.map (Value.int .i64)).take ((Lib.compact xs).length * 1) = (Lib.compact xs).map (Value.int .i64) := by
      rw [Nat.mul_one, List.toList_toArray, List.map_append, List.take_left' (by simp)]
    rw [e] at h3
    exact h3
theorem info_intE : (Try.prog.info? 3).map (fun i => (i.zero, i.size, i.bytes)) = some (some (.int .i64 0), 1, 8) := by kernel_rfl
/-- Who stands in the way of q, in the order of the queue; sorted, each once. -/
def blkL (l : List Rq) (q : Rq) : List Int := (l.filter fun o => blocksB o q).map (·.txn)
theorem blkL_snoc (l : List Rq) (q : Rq) (k : Nat) (h : k < l.length) : blkL (l.take (k + 1)) q = blkL (l.take k) q ++ (if blocksB (l.getD k default) q then [(l.getD k default).txn] else []) := by
  unfold blkL
  rw [take_snocQ l k h, List.filter_append, List.map_append]
  congr 1
  generalize l.getD k default = o
  cases hb : blocksB o q <;> simp [hb]
theorem blkL_len (l : List Rq) (q : Rq) : (blkL l q).length ≤ l.length := by
  unfold blkL
  rw [List.length_map]
  exact List.length_filter_le _ _
def nrm (xs : List Int) : List Int := Lib.compact (xs.mergeSort fun a b => decide (a ≤ b))
def blkV (l : List Rq) (id : Int) : List Int := if plc l id < 0 then [] else if 0 < (l.getD (plc l id).toNat default).since then nrm (blkL l (l.getD (plc l id).toNat default)) else []
theorem sorted_eq {xs ys : List Int} (hp : ys.Perm xs) (hs : ys.Pairwise (· ≤ ·)) : ys = xs.mergeSort fun a b => decide (a ≤ b) := by
  refine List.Perm.eq_of_pairwise (le := (· ≤ ·)) (fun a b _ _ h1 h2 => Int.le_antisymm h1 h2) hs ?_ (hp.trans (List.mergeSort_perm xs _).symm)
  have := List.pairwise_mergeSort (le := fun a b : Int => decide (a ≤ b)) (fun a b c h1 h2 => by simp at *; omega) (fun a b => by simp; omega) xs
  exact this.imp (fun {a b} h => by simpa using h)
set_option maxHeartbeats 1000000 in
theorem blockers_none (t r n : Int) (v : Value) (l : List Rq) (id0 : Int) (w : World) (hv : RQ w v l) (hl : l.length ≤ 1000) (hi : plc l id0 = -1) :
    Calls Try.prog 31 #[hval t r v n, .int .i64 id0] w fun e w' => e = .returned (.slice none 0 0) ∧ Below w.heap.size w w' := by
  have h0 := Lib.hid (fun b0 => (Sep.start w).alloc b0 29)
  have HF := Lib.hid (fun W hb => find_none t r n v l id0 W (hv.below hb) hl hi)
  obtain ⟨a, c, rfl, _⟩ := hv
  unfold hval Rq.val at *
  go_enter Try.func31, Try.ntmps31
  go_wp2_with fail
  refine (HF.out _ (h0.out _).tail.gold).mono ?_
  rintro e w1 ⟨rfl, b1⟩
  have hB := Lib.hid (((h0.out _).below b1).alloc #[.int .i64 0, .int .i64 0, .int .i64 0, .int .i64 0, .int .i64 0] 39)
  clear b1
  go_wp2_with fail
  go_ret
  exact ⟨rfl, hB.out.tail.tail.gold⟩
set_option maxHeartbeats 1000000 in
theorem blockers_calm (t r n : Int) (v : Value) (l : List Rq) (id0 : Int) (w : World) (hv : RQ w v l) (hl : l.length ≤ 1000) (i : Nat) (hi : plc l id0 = i) (hil : i < l.length) (hs : decide (0 < (l.getD i default).since) = false) :
    Calls Try.prog 31 #[hval t r v n, .int .i64 id0] w fun e w' => e = .returned (.slice none 0 0) ∧ Below w.heap.size w w' := by
  have h0 := Lib.hid (fun b0 => (Sep.start w).alloc b0 29)
  have HF := Lib.hid (fun W hb => find_some t r n v l id0 W (hv.below hb) hl i hi hil)
  have HW := Lib.hid (fun W => waits_any (l.getD i default) W)
  rw [hs] at HW
  obtain ⟨a, c, rfl, _⟩ := hv
  clear hs
  generalize l.getD i default = q at *
  obtain ⟨id, txn, mode, want, since⟩ := q
  unfold hval Rq.val at *
  simp only at HF HW
  go_enter Try.func31, Try.ntmps31
  go_wp2_with fail
  refine (HF.out _ (h0.out _).tail.gold).mono ?_
  rintro e w1 ⟨rfl, b1⟩
  have hB := Lib.hid (((h0.out _).below b1).alloc #[.int .i64 id, .int .i64 txn, .int .i64 mode, .int .i64 want, .int .i64 since] 39)
  obtain ⟨_, p0, p1, p2, p3, p4, _⟩ := hB.out.b5
  clear b1
  go_wp2_with fail
  refine (HW.out _).mono ?_
  rintro e w2 ⟨rfl, b2⟩
  replace hB := Lib.hid (hB.out.below b2)
  clear b2 p0 p1 p2 p3 p4
  go_wp2_with fail
  go_ret
  exact ⟨rfl, hB.out.tail.tail.gold⟩
set_option maxHeartbeats 2000000 in
set_option maxRecDepth 100000 in
theorem blockers_some (t r n : Int) (v : Value) (l : List Rq) (id0 : Int) (w : World) (hv : RQ w v l) (hl : l.length ≤ 1000) (i : Nat) (hi : plc l id0 = i) (hil : i < l.length) (hs : decide (0 < (l.getD i default).since) = true) :
    Calls Try.prog 31 #[hval t r v n, .int .i64 id0] w fun e w' => ∃ a c, e = .returned (.slice a (nrm (blkL l (l.getD i default))).length c) ∧ Sep w' [vec 3 1 (.slice a (nrm (blkL l (l.getD i default))).length c) (nrm (blkL l (l.getD i default))).length ((nrm (blkL l (l.getD i default))).map (Value.int .i64)), old w] := by
  have h0 := Lib.hid (fun b0 => (Sep.start w).alloc b0 29)
  have HF := Lib.hid (fun W hb => find_some t r n v l id0 W (hv.below hb) hl i hi hil)
  have HW := Lib.hid (fun W => waits_any (l.getD i default) W)
  rw [hs] at HW
  obtain ⟨a, c, rfl, hlc, _, hr⟩ := hv
  replace hr := Lib.hid hr
  clear hs hi hil
  generalize l.getD i default = q at *
  have hlen := Lib.hid (fun k => blkL_len (l.take k) q)
  have HBl := Lib.hid (fun o W => blocks_any o q W)
  have HSo := Lib.hid (fun a n c xs w rs h1 h2 h3 => sortInts_any a n c xs w rs h1 h2 h3)
  have HCo := Lib.hid (fun a n c xs w rs h1 h2 h3 => compactInts_any a n c xs w rs h1 h2 h3)
  have eg := eg_cmp
  obtain ⟨i0, hi, hz0, hz1, hz2⟩ := info_parts info_intE
  obtain ⟨R, hR⟩ : ∃ R, nrm (blkL l q) = R := ⟨_, rfl⟩
  rw [hR]
  replace hR := Lib.hid hR
  have hsn := Lib.hid (fun k h => blkL_snoc l q k h)
  obtain ⟨q', hq'⟩ : ∃ q', q = q' := ⟨_, rfl⟩
  rw [hq'] at HF HW HBl
  replace hq' := Lib.hid hq'
  obtain ⟨id, txn, mode, want, since⟩ := q'
  unfold hval Rq.val at *
  simp only at HF HW HBl
  generalize hm : l.length = m at *
  replace hm := Lib.hid hm
  go_enter Try.func31, Try.ntmps31
  go_wp2_with fail
  refine (HF.out _ (h0.out _).tail.gold).mono ?_
  rintro e w1 ⟨rfl, b1⟩
  have hB := Lib.hid (((h0.out _).below b1).alloc #[.int .i64 id, .int .i64 txn, .int .i64 mode, .int .i64 want, .int .i64 since] 39)
  obtain ⟨_, p0, p1, p2, p3, p4, _⟩ := hB.out.b5
  clear b1 HF h0
  go_wp2_with fail
  refine (HW.out _).mono ?_
  rintro e w2 ⟨rfl, b2⟩
  replace hB := Lib.hid (hB.out.below b2)
  clear b2 HW p0 p1 p2 p3 p4
  generalize w1.heap.size = RB at *
  obtain ⟨_, d0, d1, d2, d3, _⟩ := hB.out.to1.b4
  have hS := Lib.hid (hB.out.vec_nil 3 1)
  clear hB
  go_wp2_with fail
  go_loopw [7, 26] (fun s x wr => ∃ (k : Nat) (sv : Value), k ≤ m ∧ x = .int .i64 k ∧ sv = s ∧ Hid (Sep wr [vec 3 1 sv (blkL (l.take k) q).length ((blkL (l.take k) q).map (Value.int .i64)), blk RB 39 #[.int .i64 id, .int .i64 txn, .int .i64 mode, .int .i64 want, .int .i64 since], blk w.heap.size 29 #[.int .i64 t, .int .i64 r, .slice a m c, .int .i64 n], old w])) (fun _ x _ => m - (intOf x).toNat)
  case atStart => exact ⟨0, _, Nat.zero_le _, rfl, rfl, hS⟩
  case round =>
    clear hS d0 d1 d2 d3
    obtain ⟨k, sv, hk, rfl, rfl, hS⟩ := hrel
    obtain ⟨sa, sc, rfl⟩ := own_slice hS.out.gvec
    have hkl := hlen.out k
    by_cases hlt : k < m
    · obtain ⟨b, off, rfl, hbl, hz⟩ := hr.out (by have := hm.out; omega)
      obtain ⟨z0, z1, z2, z3, z4⟩ := hz k (by have := hm.out; omega)
      have kk : ∀ o, wr.cell? ⟨b, o, none⟩ = w.cell? ⟨b, o, none⟩ := fun o => hS.out.to3.gold.cell (p := ⟨b, o, none⟩) hbl
      rw [← kk] at z0 z1 z2 z3 z4
      have E := Lib.hid (hsn.out k hlt)
      have hkl2 : (blkL (l.take k) q).length ≤ k := Nat.le_trans hkl (by rw [List.length_take]; omega)
      have HB2 := Lib.hid (fun W => HBl.out (l.getD k default) W)
      have hS2 := hS.out.alloc (l.getD k default).cells.toArray 39
      rw [hq'.out] at E
      generalize hbv : blocksB (l.getD k default) ⟨id, txn, mode, want, since⟩ = bv at *
      replace hbv := Lib.hid hbv
      generalize l.getD k default = o at *
      obtain ⟨oid, otxn, omode, owant, osince⟩ := o
      simp only [Rq.cells] at hS2
      simp only at z0 z1 z2 z3 z4 E HB2
      rw [← hq'.out] at E
      replace hS2 := Lib.hid (show Sep _ [blk wr.heap.size 39 #[.int .i64 oid, .int .i64 otxn, .int .i64 omode, .int .i64 owant, .int .i64 osince], _, _, _, _] from hS2)
      obtain ⟨_, p0, p1, p2, p3, p4, _⟩ := hS2.out.b5
      obtain ⟨_, r0, r1, r2, r3, r4, _⟩ := hS2.out.to2.b5
      have i1 : (0 : Int) ≤ (k : Int) := by omega
      have i2 : (k : Int) < (m : Int) := by omega
      clear kk hz hkl
      go_wp2_with fail
      refine (HB2.out _).mono ?_
      rintro e w3 ⟨rfl, b3⟩
      replace hS2 := Lib.hid (hS2.out.below b3)
      generalize wr.heap.size = OB at *
      clear b3 HB2 p0 p1 p2 p3 p4 r0 r1 r2 r3 r4 z0 z1 z2 z3 z4 hS
      obtain ⟨_, p0, p1, p2, p3, p4, _⟩ := hS2.out.b5
      cases bv with
      | true =>
        rw [if_pos rfl] at E
        go_wp2_with (at_builtin; refine wpList_append_sep (hS2.out.to1.allocG _) rfl _ _ 30 rfl i0 (.int .i64 0) 8 Try.underlying30 hi hz0 hz1 hz2 rfl (by decide) rfl 1 [.int .i64 otxn] (SrcA.one _ _ _ _) ?c2 ?c3 ?c4 ?_)
        case c2 => simp [Value.oneCell']
        case c3 => simp only [maxLen]; omega
        case c4 => omega
        intro aa ca w5 hS5
        have hS6 : Hid (Sep w5 [vec 3 1 (.slice aa ((blkL (l.take k) q).length + 1) ca) (blkL (l.take (k + 1)) q).length ((blkL (l.take (k + 1)) q).map (Value.int .i64)), _, _, _]) := Lib.hid (by rw [E.out]; simpa using hS5.drop1)
        clear hS2 E hS5 p0 p1 p2 p3 p4
        go_wp2_with fail
        go_roundw
        case rel => exact ⟨k + 1, _, by omega, by go_num, rfl, hS6⟩
        case measure => simp [intOf]; omega
      | false =>
        rw [if_neg (by decide), List.append_nil] at E
        have hS6 : Hid (Sep w3 [vec 3 1 (.slice sa (blkL (l.take k) q).length sc) (blkL (l.take (k + 1)) q).length ((blkL (l.take (k + 1)) q).map (Value.int .i64)), _, _, _]) := Lib.hid (by rw [E.out]; exact hS2.out.tail)
        clear hS2 E p0 p1 p2 p3 p4
        go_wp2_with fail
        go_roundw
        case rel => exact ⟨k + 1, _, by omega, by go_num, rfl, hS6⟩
        case measure => simp [intOf]; omega
    · obtain rfl : k = m := by omega
      have e1 : l.take k = l := List.take_of_length_le (by rw [hm.out]; omega)
      rw [e1] at hS hkl ⊢
      clear hsn hlen hr HBl
      obtain ⟨xs, hxs⟩ : ∃ xs, blkL l q = xs := ⟨_, rfl⟩
      rw [hxs] at hS hkl ⊢
      have hR2 := hR.out
      rw [hxs] at hR2
      clear hR hxs e1
      have HS2 := Lib.hid (HSo.out sa xs.length sc xs wr _ hS.out rfl (by have := hm.out; omega))
      clear HSo
      go_wp2_with fail
      refine HS2.out.mono ?_
      rintro e w3 ⟨rfl, ys, hp, hso, hS3⟩
      have e2 := sorted_eq hp hso
      have HC2 := Lib.hid (HCo.out sa xs.length sc ys w3 _ hS3 hp.length_eq (by have := hm.out; omega))
      have e3 : Lib.compact ys = R := by rw [e2]; exact hR2
      rw [e3] at HC2
      clear HCo HS2 hS3 hS e2 e3 hR2 hp hso
      go_wp2_with fail
      refine HC2.out.mono ?_
      rintro e w4 ⟨rfl, hS4⟩
      replace hS4 := Lib.hid hS4
      clear HC2
      go_wp2_with fail
      go_ret
      exact ⟨_, _, rfl, hS4.out.drop1.drop1⟩
end Go.Proofs.Ytcnkmhfcgkbhbaa
namespace Go.Proofs.Ytcnkmhfcgkbhbaa
set_option linter.unusedSimpArgs false
set_option linter.unusedVariables false
set_option linter.unnecessarySimpa false
open Go.RowKit
theorem cpI_props (l : List Int) (hs : l.Pairwise (· ≤ ·)) : ∀ m, m ≤ l.length → (∀ e, e ∈ Lib.compactUpTo l.toArray m ↔ e ∈ l.take m) ∧ (Lib.compactUpTo l.toArray m).Pairwise (· < ·)
  | 0, _ => by simp [Lib.compactUpTo]
  | m + 1, hm => by
    obtain ⟨h1, h2⟩ := cpI_props l hs m (by omega)
    have hg : l.toArray[m]! = l[m] := by simp [show m < l.length by omega]
    have htk : l.take (m + 1) = l.take m ++ [l[m]] := List.take_succ_eq_append_getElem (by omega)
    have hle : ∀ i, ∀ h : i < m, l[i]'(by omega) ≤ l[m]'(by omega) := fun i h => List.pairwise_iff_getElem.1 hs i m (by omega) (by omega) h
    rw [Lib.compactUpTo_succ, htk, hg]
    cases hk : Lib.keeps l.toArray m with
    | false =>
      simp only [Bool.false_eq_true, if_false, List.append_nil]
      refine ⟨fun e => ?_, h2⟩
      rw [h1, List.mem_append, List.mem_singleton]
      refine ⟨.inl, fun h => h.elim id fun h => ?_⟩
      subst h
      cases m with
      | zero => simp [Lib.keeps] at hk
      | succ p =>
        have hp : l.toArray[p]! = l[p] := by simp [show p < l.length by omega]
        have he : l[p + 1] = l[p] := by
          unfold Lib.keeps at hk
          rw [Nat.add_sub_cancel, hg, hp] at hk
          simpa using hk
        rw [he]
        exact List.mem_take_iff_getElem.2 ⟨p, by omega, rfl⟩
    | true =>
      simp only [if_true]
      refine ⟨fun e => by rw [List.mem_append, List.mem_append, h1], ?_⟩
      rw [List.pairwise_append]
      refine ⟨h2, List.pairwise_singleton _ _, fun x hx y hy => ?_⟩
      rw [List.mem_singleton] at hy
      subst hy
      rw [h1] at hx
      obtain ⟨i, hi, rfl⟩ := List.mem_take_iff_getElem.1 hx
      have hi2 : i < m := by omega
      have hxm := hle i hi2
      have hne : l[i]'(by omega) ≠ l[m]'(by omega) := by
        intro heq
        cases m with
        | zero => omega
        | succ p =>
          have hp : l.toArray[p]! = l[p] := by simp [show p < l.length by omega]
          have hd : l[p + 1] ≠ l[p] := by
            unfold Lib.keeps at hk
            rw [Nat.add_sub_cancel, hg, hp] at hk
            simpa using hk
          have h3 : l[i]'(by omega) ≤ l[p]'(by omega) := by
            by_cases hip : i = p
            · subst hip
              exact Int.le_refl _
            · exact List.pairwise_iff_getElem.1 hs i p (by omega) (by omega) (by omega)
          have h4 : l[p]'(by omega) ≤ l[p + 1]'(by omega) := hle p (by omega)
          rw [heq] at h3
          exact hd (Int.le_antisymm h3 h4)
      omega
theorem srtI_pw (xs : List Int) : (xs.mergeSort fun a b => decide (a ≤ b)).Pairwise (· ≤ ·) := by
  have := List.pairwise_mergeSort (le := fun a b : Int => decide (a ≤ b)) (fun a b c h1 h2 => by simp at *; omega) (fun a b => by simp; omega) xs
  exact this.imp (fun {a b} h => by simpa using h)
theorem nrm_mem (xs : List Int) (x : Int) : x ∈ nrm xs ↔ x ∈ xs := by
  have h := (cpI_props _ (srtI_pw xs) _ (Nat.le_refl _)).1 x
  rw [List.take_length] at h
  exact h.trans (List.mergeSort_perm xs _).mem_iff
theorem nrm_pw (xs : List Int) : (nrm xs).Pairwise (· < ·) := (cpI_props _ (srtI_pw xs) _ (Nat.le_refl _)).2
/-- Strict order and members make a list. -/
theorem ltI_uniq : ∀ (l l' : List Int), l.Pairwise (· < ·) → l'.Pairwise (· < ·) → (∀ e, e ∈ l ↔ e ∈ l') → l = l'
  | [], [], _, _, _ => rfl
  | [], y :: l', _, _, h => by simpa using (h y)
  | x :: l, [], _, _, h => by simpa using (h x)
  | x :: l, y :: l', h1, h2, h => by
    rw [List.pairwise_cons] at h1 h2
    have hx := (h x).1 (by simp)
    have hy := (h y).2 (by simp)
    rw [List.mem_cons] at hx hy
    have e : x = y := by
      rcases hx with hx | hx
      · exact hx
      · rcases hy with hy | hy
        · exact hy.symm
        · have a := h2.1 x hx
          have b := h1.1 y hy
          omega
    subst e
    congr 1
    refine ltI_uniq l l' h1.2 h2.2 fun e => ?_
    have he := h e
    rw [List.mem_cons, List.mem_cons] at he
    constructor
    · intro hm
      rcases he.1 (.inr hm) with rfl | h3
      · exact absurd (h1.1 _ hm) (by omega)
      · exact h3
    · intro hm
      rcases he.2 (.inr hm) with rfl | h3
      · exact absurd (h2.1 _ hm) (by omega)
      · exact h3
theorem nrm_self (l : List Int) (h : l.Pairwise (· < ·)) : nrm l = l := ltI_uniq _ _ (nrm_pw l) h (nrm_mem l)
end Go.Proofs.Ytcnkmhfcgkbhbaa
namespace Go.Proofs.Ytcnkmhfcgkbhbaa
set_option linter.unusedSimpArgs false
set_option linter.unusedVariables false
set_option linter.unnecessarySimpa false
open Go.RowKit Go.ChangeShapes Go.WideShapes Go.Joins Go.Deep
/-- A head: its name, how many began to wait, its queue as a value, and as a list. -/
structure Hv where
  t : Int
  r : Int
  n : Int
  v : Value
  l : List Rq
instance : Inhabited Hv := ⟨⟨0, 0, 0, .slice none 0 0, []⟩⟩
def Hv.cells (x : Hv) : List Value := [.int .i64 x.t, .int .i64 x.r, x.v, .int .i64 x.n]
/-- The value u is a slice of heads that reads as hs. -/
def HD (w : World) (u : Value) (hs : List Hv) : Prop :=
  ∃ a c, u = .slice a hs.length c ∧ (0 < hs.length → ∃ b off, a = some ⟨b, off, none⟩ ∧ b < w.heap.size ∧ ∀ i, i < hs.length →
    w.cell? ⟨b, off + i * 4, none⟩ = some (.int .i64 (hs.getD i default).t) ∧ w.cell? ⟨b, off + i * 4 + 1, none⟩ = some (.int .i64 (hs.getD i default).r) ∧
    w.cell? ⟨b, off + i * 4 + 2, none⟩ = some (hs.getD i default).v ∧ w.cell? ⟨b, off + i * 4 + 3, none⟩ = some (.int .i64 (hs.getD i default).n)) ∧
    ∀ i, i < hs.length → RQ w (hs.getD i default).v (hs.getD i default).l
theorem HD.below {w w' : World} {u : Value} {hs : List Hv} (h : HD w u hs) (hb : Below w.heap.size w w') : HD w' u hs := by
  obtain ⟨a, c, hv, hr, hq⟩ := h
  refine ⟨a, c, hv, fun h0 => ?_, fun i hi => (hq i hi).below hb⟩
  obtain ⟨b, off, ha, hlt, hz⟩ := hr h0
  have k : ∀ o, w'.cell? ⟨b, o, none⟩ = w.cell? ⟨b, o, none⟩ := fun o => hb.cell (p := ⟨b, o, none⟩) hlt
  exact ⟨b, off, ha, Nat.lt_of_lt_of_le hlt hb.size, fun j hj => by rw [k, k, k, k]; exact hz j hj⟩
section
variable {H : Type} {enc : TypeId × Value → H} {w : World} {base : Nat} {spare : Nat → Bool} {held : Bool}
end
end Go.Proofs.Ytcnkmhfcgkbhbaa
namespace Go.Proofs.Ytcnkmhfcgkbhbaa
set_option linter.unusedSimpArgs false
set_option linter.unusedVariables false
set_option linter.unnecessarySimpa false
open Go.RowKit
/-- The edges of one request, of a queue, of heads. -/
def rqE (l : List Rq) (q : Rq) : List Ed := (blkV l q.id).map fun b => ⟨q.txn, b⟩
def quE (l : List Rq) : List Ed := l.flatMap (rqE l)
def hdsE (hs : List Hv) : List Ed := hs.flatMap fun x => quE x.l
theorem nrm_len (xs : List Int) : (nrm xs).length ≤ xs.length := by
  have h := (List.mergeSort_perm xs fun a b => decide (a ≤ b)).length_eq
  unfold nrm
  rw [← h]
  unfold Lib.compact Lib.compactUpTo
  rw [List.length_map]
  exact Nat.le_trans (List.length_filter_le _ _) (by simp)
theorem blkV_len (l : List Rq) (id : Int) : (blkV l id).length ≤ l.length := by
  unfold blkV
  split
  · simp
  · split
    · exact Nat.le_trans (nrm_len _) (blkL_len _ _)
    · simp
theorem rqE_len (l : List Rq) (q : Rq) : (rqE l q).length ≤ l.length := by
  unfold rqE
  rw [List.length_map]
  exact blkV_len l q.id
theorem flat_le {α β : Type} (f : α → List β) (m : Nat) : ∀ (l : List α), (∀ x ∈ l, (f x).length ≤ m) → (l.flatMap f).length ≤ l.length * m
  | [], _ => by simp
  | x :: l, h => by
    have h1 := h x (by simp)
    have h2 := flat_le f m l fun y hy => h y (by simp [hy])
    rw [List.flatMap_cons, List.length_append, List.length_cons, Nat.succ_mul]
    omega
theorem quE_len (l : List Rq) (h : l.length ≤ 12) : (quE l).length ≤ 144 := by
  have h1 := flat_le (rqE l) 12 l fun q _ => Nat.le_trans (rqE_len l q) h
  unfold quE
  have : l.length * 12 ≤ 12 * 12 := Nat.mul_le_mul_right _ h
  omega
theorem hdsE_len (hs : List Hv) (h : ∀ x ∈ hs, x.l.length ≤ 12) : (hdsE hs).length ≤ hs.length * 144 := flat_le _ 144 hs fun x hx => quE_len x.l (h x hx)
theorem quE_len1 (l : List Rq) (k : Nat) (h : l.length ≤ 12) : ((l.take k).flatMap (rqE l)).length ≤ 144 := by
  have h1 := flat_le (rqE l) 12 (l.take k) fun q _ => Nat.le_trans (rqE_len l q) h
  have h2 : (l.take k).length ≤ 12 := by rw [List.length_take]; omega
  have : (l.take k).length * 12 ≤ 12 * 12 := Nat.mul_le_mul_right _ h2
  omega
theorem blk_ne {o q : Rq} (h : blocksB o q = true) : o.id ≠ q.id := by
  intro e
  unfold blocksB at h
  rw [if_pos (by simpa using e)] at h
  cases h
end Go.Proofs.Ytcnkmhfcgkbhbaa
namespace Go.Proofs.Ytcnkmhfcgkbhbaa
set_option linter.unusedSimpArgs false
set_option linter.unusedVariables false
set_option linter.unnecessarySimpa false
open Go.RowKit
theorem blockers_any (t r n : Int) (v : Value) (l : List Rq) (id0 : Int) (w : World) (hv : RQ w v l) (hl : l.length ≤ 1000) :
    Calls Try.prog 31 #[hval t r v n, .int .i64 id0] w fun e w' => ∃ a c, e = .returned (.slice a (blkV l id0).length c) ∧ Sep w' [vec 3 1 (.slice a (blkV l id0).length c) (blkV l id0).length ((blkV l id0).map (Value.int .i64)), old w] := by
  have nil : ∀ w', Below w.heap.size w w' → Sep w' [vec 3 1 (.slice none 0 0) 0 [], old w] := fun w' hb => ((Sep.start w).below hb).vec_nil _ _
  by_cases hn : plc l id0 < 0
  · have e0 : blkV l id0 = [] := by unfold blkV; rw [if_pos hn]
    rw [e0]
    refine (blockers_none t r n v l id0 w hv hl (plc_neg hn)).mono ?_
    rintro e w' ⟨rfl, hb⟩
    exact ⟨none, 0, rfl, nil w' hb⟩
  · obtain ⟨i, hi, hil, _⟩ := plc_spec l id0 hn
    by_cases hs : 0 < (l.getD i default).since
    · have e0 : blkV l id0 = nrm (blkL l (l.getD i default)) := by unfold blkV; rw [if_neg hn, hi, Int.toNat_natCast, if_pos hs]
      rw [e0]
      exact blockers_some t r n v l id0 w hv hl i hi hil (decide_eq_true hs)
    · have e0 : blkV l id0 = [] := by unfold blkV; rw [if_neg hn, hi, Int.toNat_natCast, if_neg hs]
      rw [e0]
      refine (blockers_calm t r n v l id0 w hv hl i hi hil (decide_eq_false hs)).mono ?_
      rintro e w' ⟨rfl, hb⟩
      exact ⟨none, 0, rfl, nil w' hb⟩
theorem take_snocG {α : Type} [Inhabited α] (l : List α) (k : Nat) (h : k < l.length) : l.take (k + 1) = l.take k ++ [l.getD k default] := by
  rw [List.take_succ_eq_append_getElem h]
  simp [List.getD, h]
theorem hdsE_snoc (hs : List Hv) (k : Nat) (h : k < hs.length) : hdsE (hs.take (k + 1)) = hdsE (hs.take k) ++ quE (hs.getD k default).l := by
  unfold hdsE
  rw [take_snocG hs k h, List.flatMap_append]
  simp
theorem quE_snoc (l : List Rq) (k : Nat) (h : k < l.length) : (l.take (k + 1)).flatMap (rqE l) = (l.take k).flatMap (rqE l) ++ rqE l (l.getD k default) := by
  rw [take_snocG l k h, List.flatMap_append]
  simp
def mkE (f : Int) (xs : List Int) : List Ed := xs.map fun b => ⟨f, b⟩
theorem mkE_snoc (f : Int) (xs : List Int) (k : Nat) (h : k < xs.length) : mkE f (xs.take (k + 1)) = mkE f (xs.take k) ++ [⟨f, xs.getD k 0⟩] := by
  unfold mkE
  rw [List.take_succ_eq_append_getElem h, List.map_append]
  simp [List.getD, h]
theorem hdsE_take_len (hs : List Hv) (h12 : ∀ x ∈ hs, x.l.length ≤ 12) (k : Nat) (h : k ≤ 8) : (hdsE (hs.take k)).length ≤ 1152 := by
  have h1 := hdsE_len (hs.take k) fun x hx => h12 x (List.mem_of_mem_take hx)
  have h2 : (hs.take k).length ≤ 8 := by rw [List.length_take]; omega
  have : (hs.take k).length * 144 ≤ 8 * 144 := Nat.mul_le_mul_right _ h2
  omega
set_option maxHeartbeats 8000000 in
set_option maxRecDepth 100000 in
theorem edges_any (u : Value) (hs : List Hv) (w : World) (hv : HD w u hs) (hl : hs.length ≤ 8) (h12 : ∀ x ∈ hs, x.l.length ≤ 12) :
    Calls Try.prog 11 #[u] w fun e w' => ∃ a c, e = .returned (.slice a (sdE (hdsE hs)).length c) ∧ Sep w' [vec 41 2 (.slice a (sdE (hdsE hs)).length c) (sdE (hdsE hs)).length ((sdE (hdsE hs)).flatMap Ed.cells), old w] := by
  obtain ⟨ua, uc, rfl, hr, hq⟩ := hv
  obtain ⟨n0, hn0⟩ : ∃ n0, hs.length = n0 := ⟨_, rfl⟩
  rw [hn0] at hr hq hl ⊢
  have HS := Lib.hid (fun v W (h : RL W v 2 (hdsE hs).length ((hdsE hs).flatMap Ed.cells)) => sorted_any v (hdsE hs) W h (by
    have := hdsE_take_len hs h12 n0 hl
    rw [← hn0, List.take_length] at this
    omega))
  replace hr := Lib.hid hr
  replace hq := Lib.hid hq
  have hlen := Lib.hid (fun k h => hdsE_take_len hs h12 k h)
  have hsnoc := Lib.hid (hdsE_snoc hs)
  have hmem := Lib.hid (fun i (hi : i < n0) => h12 (hs.getD i default) (by
    have : i < hs.length := by omega
    have e : hs.getD i default = hs[i] := by simp [List.getD, this]
    rw [e]
    exact List.getElem_mem this))
  replace hn0 := Lib.hid hn0
  obtain ⟨i0, hi0, hz0, hz1, hz2⟩ := info_parts info_ed
  have h1c : Hid (∀ x y, ∀ u ∈ ([.int .i64 x, .int .i64 y] : List Value), u.oneCell' = true) := Lib.hid (by simp [Value.oneCell'])
  have hV0 := Lib.hid ((Sep.start w).vec_nil 41 2)
  clear h12
  go_enter Try.func11, Try.ntmps11
  go_wp2_with fail
  go_loopg [3, 12] n0 (fun gm s3 s12 W => ∃ (i : Nat) (O : List Ed) (ao : Option Addr) (co n : Nat), i ≤ n0 ∧ gm = n0 - i ∧ s3 = .slice ao n co ∧ s12 = .int .i64 i ∧ Hid (O = hdsE (hs.take i)) ∧ Hid (O.length = n) ∧ Hid (Sep W [vec 41 2 (.slice ao n co) n (O.flatMap Ed.cells), old w]))
  case atStart => exact ⟨0, [], none, 0, 0, Nat.zero_le _, rfl, rfl, rfl, Lib.hid rfl, Lib.hid rfl, hV0⟩
  case round =>
    clear hV0
    obtain ⟨i, O, ao, co, n, hi, hgm, rfl, rfl, hO, hOn, hV⟩ := hrel
    by_cases hlt : i < n0
    · obtain ⟨b, off, rfl, hb, hz⟩ := hr.out (by omega)
      obtain ⟨z0, z1, z2, z3⟩ := hz i hlt
      have kk : ∀ o, wr.cell? ⟨b, o, none⟩ = w.cell? ⟨b, o, none⟩ := fun o => hV.out.tail.gold.cell (p := ⟨b, o, none⟩) hb
      rw [← kk] at z0 z1 z2 z3
      have hRQ := hq.out i hlt
      have hx12 := hmem.out i hlt
      have hsn := hsnoc.out i (by rw [hn0.out]; exact hlt)
      rw [← hO.out] at hsn
      have hOl : O.length ≤ 1152 := by rw [hO.out]; exact hlen.out i (by omega)
      clear kk hz
      generalize hs.getD i default = x at *
      obtain ⟨t, r, nw, v, l⟩ := x
      simp only at z0 z1 z2 z3 hRQ hx12 hsn
      have HB := Lib.hid (fun id W (hb : Below w.heap.size w W) => blockers_any t r nw v l id W (hRQ.below hb) (by omega))
      have hbl := Lib.hid (blkV_len l)
      have hqs := Lib.hid (quE_snoc l)
      have hql := Lib.hid (fun k => quE_len1 l k hx12)
      replace hsn := Lib.hid hsn
      obtain ⟨qa, qc, rfl, hlq, _, hqr⟩ := hRQ
      replace hqr := Lib.hid hqr
      obtain ⟨m, hm⟩ : ∃ m, l.length = m := ⟨_, rfl⟩
      rw [hm] at hqr hlq hx12 z2 hbl
      simp only [hm] at HB
      replace HB := Lib.hid HB.out
      replace hm := Lib.hid hm
      have i1 : (0 : Int) ≤ (i : Int) := by omega
      have i2 : (i : Int) < (n0 : Int) := by omega
      have hV1 := Lib.hid ((hV.out.alloc #[.int .i64 t, .int .i64 r, .slice qa m qc, .int .i64 nw] 29).to1)
      obtain ⟨_, d0, d1, d2, d3, _⟩ := hV1.out.to1.b4
      have hms := Lib.hid (show n0 - (i + 1) < n0 - i by omega)
      unfold hval at HB
      go_wp2_with fail
      generalize hG : wr.heap.size = gh at *
      clear hV d0 d1 d2 d3 z0 z1 z2 z3 hG
      go_loopg [3, 19] m (fun gm s3 s19 W => ∃ (k : Nat) (P : List Ed) (ap : Option Addr) (cp np : Nat), k ≤ m ∧ gm = m - k ∧ s3 = .slice ap np cp ∧ s19 = .int .i64 k ∧ Hid (P = O ++ (l.take k).flatMap (rqE l)) ∧ Hid (P.length = np) ∧ Hid (Sep W [vec 41 2 (.slice ap np cp) np (P.flatMap Ed.cells), blk gh 29 #[.int .i64 t, .int .i64 r, .slice qa m qc, .int .i64 nw], old w]))
      case atStart => exact ⟨0, O, ao, co, n, Nat.zero_le _, rfl, rfl, rfl, Lib.hid (by simp), hOn, hV1⟩
      case round =>
        clear hV1
        obtain ⟨k, P, ap, cp, np, hk, hgm2, rfl, rfl, hP, hPn, hV⟩ := hrel
        by_cases hlt2 : k < m
        · obtain ⟨qb, qo, rfl, hqb, hqz⟩ := hqr.out (by omega)
          obtain ⟨y0, y1, y2, y3, y4⟩ := hqz k hlt2
          have kk : ∀ o, wr.cell? ⟨qb, o, none⟩ = w.cell? ⟨qb, o, none⟩ := fun o => hV.out.to2.gold.cell (p := ⟨qb, o, none⟩) hqb
          rw [← kk] at y0 y1 y2 y3 y4
          have hqn := hqs.out k (by rw [hm.out]; exact hlt2)
          have hPl : P.length ≤ 1296 := by
            have h1 := hql.out k
            rw [hP.out, List.length_append]
            omega
          clear kk hqz
          generalize l.getD k default = q at *
          replace hqn := Lib.hid (show O ++ (l.take (k + 1)).flatMap (rqE l) = P ++ mkE q.txn (blkV l q.id) by rw [hqn, ← List.append_assoc, ← hP.out]; rfl)
          have HB1 := Lib.hid (fun W hb => HB.out q.id W hb)
          have hbl1 := hbl.out q.id
          obtain ⟨id, txn, mode, want, since⟩ := q
          simp only at y0 y1 y2 y3 y4 hqn HB1 hbl1
          generalize blkV l id = bs at *
          obtain ⟨nb, hnb⟩ : ∃ nb, bs.length = nb := ⟨_, rfl⟩
          rw [hnb] at hbl1
          simp only [hnb] at HB1
          replace HB1 := Lib.hid HB1.out
          replace hnb := Lib.hid hnb
          have i1 : (0 : Int) ≤ (k : Int) := by omega
          have i2 : (k : Int) < (m : Int) := by omega
          have hV1 := Lib.hid (show Sep _ [blk wr.heap.size 39 #[.int .i64 id, .int .i64 txn, .int .i64 mode, .int .i64 want, .int .i64 since], _, _, _] from hV.out.alloc #[.int .i64 id, .int .i64 txn, .int .i64 mode, .int .i64 want, .int .i64 since] 39)
          obtain ⟨_, p0, p1, p2, p3, p4, _⟩ := hV1.out.b5
          obtain ⟨_, d0, d1, d2, d3, _⟩ := hV1.out.to2.b4
          have hms2 := Lib.hid (show m - (k + 1) < m - k by omega)
          go_wp2_with fail
          refine (HB1.out _ (hV1.out.to3.gold)).mono ?_
          rintro e w2 ⟨ba, bc, rfl, qq⟩
          replace hV1 := Lib.hid (qq.graft (show Sep _ [blk wr.heap.size 39 #[.int .i64 id, .int .i64 txn, .int .i64 mode, .int .i64 want, .int .i64 since], vec 41 2 (.slice ap np cp) np (P.flatMap Ed.cells), blk gh 29 #[.int .i64 t, .int .i64 r, .slice (some ⟨qb, qo, none⟩) m qc, .int .i64 nw], old w] from hV1.out))
          clear qq HB1 p0 p1 p2 p3 p4 d0 d1 d2 d3 hV y0 y1 y2 y3 y4
          generalize hG : wr.heap.size = gr at *
          clear hG
          go_wp2_with fail
          go_loopg [3, 28] nb (fun gm s3 s28 W => ∃ (j : Nat) (S : List Ed) (sa : Option Addr) (sc ns : Nat), j ≤ nb ∧ gm = nb - j ∧ s3 = .slice sa ns sc ∧ s28 = .int .i64 j ∧ Hid (S = P ++ mkE txn (bs.take j)) ∧ Hid (S.length = ns) ∧ Hid (Sep W [vec 41 2 (.slice sa ns sc) ns (S.flatMap Ed.cells), vec 3 1 (.slice ba nb bc) nb (bs.map (Value.int .i64)), blk gr 39 #[.int .i64 id, .int .i64 txn, .int .i64 mode, .int .i64 want, .int .i64 since], blk gh 29 #[.int .i64 t, .int .i64 r, .slice (some ⟨qb, qo, none⟩) m qc, .int .i64 nw], old w]))
          case atStart => exact ⟨0, P, ap, cp, np, Nat.zero_le _, rfl, rfl, rfl, Lib.hid (by simp [mkE]), hPn, Lib.hid (by have h := hV1.out.to2; exact h)⟩
          case round =>
            clear hV1
            obtain ⟨j, S, sa, sc, ns, hj, hgm3, rfl, rfl, hS, hSn, hV⟩ := hrel
            by_cases hlt3 : j < nb
            · obtain ⟨a', c', ev, hcell⟩ := hV.out.to1.vec_ri
              injection ev with ea el ec
              clear el ec
              obtain ⟨rb, ro, hba, _, hc⟩ := hcell (by rw [hnb.out]; omega)
              rw [hba] at ea
              subst ea
              have c0 := hc j (by rw [hnb.out]; exact hlt3)
              obtain ⟨_, p0, p1, p2, p3, p4, _⟩ := hV.out.to2.b5
              have hsn3 := mkE_snoc txn bs j (by rw [hnb.out]; exact hlt3)
              have hSl : ns ≤ 1400 := by
                have h1 := hSn.out
                rw [hS.out, List.length_append] at h1
                have h2 : (mkE txn (bs.take j)).length ≤ nb := by simp [mkE]; omega
                omega
              generalize bs.getD j 0 = bj at *
              replace hsn3 := Lib.hid (show P ++ mkE txn (bs.take (j + 1)) = S ++ [⟨txn, bj⟩] by rw [hsn3, ← List.append_assoc, ← hS.out])
              clear hc hcell hba
              have i1 : (0 : Int) ≤ (j : Int) := by omega
              have i2 : (j : Int) < (nb : Int) := by omega
              have hms3 := Lib.hid (show nb - (j + 1) < nb - j by omega)
              go_wp2_with (at_builtin; (refine wpList_append_sep (hV.out.allocG _) rfl _ _ 33 rfl i0 _ 16 Try.underlying33 hi0 hz0 hz1 hz2 rfl (by decide) rfl 1 [.int .i64 txn, .int .i64 bj] (srcA_cells _ _ _ _ 2 rfl) (h1c.out _ _) (by simp only [maxLen]; omega) (by omega) ?_; intro oa' oc' w5 q2; replace q2 := Lib.hid q2))
              go_roundg (nb - (j + 1))
              case measure => rw [hgm3]; exact hms3.out
              case rel => exact ⟨j + 1, S ++ [⟨txn, bj⟩], oa', oc', ns + 1, by omega, rfl, rfl, by go_num, Lib.hid hsn3.out.symm, Lib.hid (by simp [hSn.out]), Lib.hid (by rw [List.flatMap_append]; exact q2.out)⟩
            · obtain rfl : j = nb := by omega
              have hS2 := Lib.hid (show S = O ++ (l.take (k + 1)).flatMap (rqE l) by rw [hS.out, ← hnb.out, List.take_length]; exact hqn.out.symm)
              clear hS
              go_wp2_with fail
              go_roundg (m - (k + 1))
              case measure => rw [hgm2]; exact hms2.out
              case rel => exact ⟨k + 1, S, sa, sc, ns, by omega, rfl, rfl, by go_num, hS2, hSn, Lib.hid hV.out.drop1.drop1⟩
        · obtain rfl : k = m := by omega
          have hP2 := Lib.hid (show P = hdsE (hs.take (i + 1)) by rw [hP.out, ← hm.out, List.take_length]; exact hsn.out.symm)
          clear hP
          go_wp2_with fail
          go_roundg (n0 - (i + 1))
          case measure => rw [hgm]; exact hms.out
          case rel => exact ⟨i + 1, P, ap, cp, np, by omega, rfl, rfl, by go_num, hP2, hPn, Lib.hid hV.out.drop1⟩
    · obtain rfl : i = n0 := by omega
      have hfn : O = hdsE hs := by rw [hO.out, ← hn0.out, List.take_length]
      subst hfn
      have hOn2 := hOn.out
      subst hOn2
      have HS1 := Lib.hid (HS.out _ _ hV.out.vec_rl)
      clear HS hO hlen hsnoc hmem
      have i2 : ¬ (i : Int) < (i : Int) := by omega
      go_wp2_with fail
      refine HS1.out.mono ?_
      rintro e w3 ⟨ra, rc, rfl, qq⟩
      replace qq := Lib.hid (qq.graft hV.out)
      clear HS1
      go_wp2_with fail
      go_ret
      exact ⟨ra, rc, rfl, qq.out.drop1⟩
end Go.Proofs.Ytcnkmhfcgkbhbaa
