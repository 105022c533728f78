/-
  The contracts of the reference's Check. No condition beside requests that can be read.
-/
import Derived.Test.YtmacpjnkmkaloaaQLeaveB
namespace Go.Proofs.Ytmacpjnkmkaloaa
open Go.RowKit
/-- May a request be by itself? -/
def rightB (r : Rq) (n : Int) : Bool := decide (0 ≤ r.id) && (knownB r.mode && (knownB r.want && (decide (0 ≤ r.since) && (decide (r.since ≤ n) && (if 0 < r.since then !covB r.mode r.want else (r.mode != 0 && r.want == r.mode))))))
set_option maxHeartbeats 1000000 in
theorem rightR_any (r : Rq) (n : Int) (w : World) : Calls Try.prog 35 #[r.val, .int .i64 n] w fun e w' => e = .returned (.bool (rightB r n)) ∧ Below w.heap.size w w' := by
  have Km := Lib.hid (fun W => knownR_any r.mode W)
  have Kw := Lib.hid (fun W => knownR_any r.want W)
  have HW := Lib.hid (fun W => waitsR_any r W)
  have HH := Lib.hid (fun W => holdsR_any r W)
  have HC := Lib.hid (fun W => coversR_any r.mode r.want W)
  unfold rightB
  obtain ⟨id, txn, mode, want, since⟩ := r
  have hb0 := Lib.hid ((Below.refl w.heap.size w).alloc (Nat.le_refl _) (.cells #[.int .i64 id, .int .i64 txn, .int .i64 mode, .int .i64 want, .int .i64 since] 48))
  unfold Rq.val at *
  simp only at Km Kw HW HH HC ⊢
  by_cases h0 : id < 0
  · have d0 : decide (id < 0) = true := decide_eq_true h0
    rw [show decide (0 ≤ id) = false by simp; omega]
    clear h0
    go_enter Try.func35, Try.ntmps35
    go_wp2_with fail
    all_goals go_ret
    all_goals exact ⟨by first | rfl | (simp; done), hb0.out⟩
  · have d0 : decide (id < 0) = false := decide_eq_false h0
    rw [show decide (0 ≤ id) = true by simp; omega]
    clear h0
    cases hm : knownB mode with
    | false =>
      rw [hm] at Km
      go_enter Try.func35, Try.ntmps35
      go_wp2_with fail
      refine (Km.out _).mono ?_
      rintro e w' ⟨rfl, rfl⟩
      go_wp2_with fail
      all_goals go_ret
      all_goals exact ⟨by first | rfl | (simp; done), hb0.out⟩
    | true =>
      rw [hm] at Km
      cases hw : knownB want with
      | false =>
        rw [hw] at Kw
        go_enter Try.func35, Try.ntmps35
        go_wp2_with fail
        refine (Km.out _).mono ?_
        rintro e w' ⟨rfl, rfl⟩
        go_wp2_with fail
        refine (Kw.out _).mono ?_
        rintro e w' ⟨rfl, rfl⟩
        go_wp2_with fail
        all_goals go_ret
        all_goals exact ⟨by first | rfl | (simp; done), hb0.out⟩
      | true =>
        rw [hw] at Kw
        by_cases h1 : since < 0
        · have d1 : decide (since < 0) = true := decide_eq_true h1
          rw [show decide (0 ≤ since) = false by simp; omega]
          clear h1
          go_enter Try.func35, Try.ntmps35
          go_wp2_with fail
          refine (Km.out _).mono ?_
          rintro e w' ⟨rfl, rfl⟩
          go_wp2_with fail
          refine (Kw.out _).mono ?_
          rintro e w' ⟨rfl, rfl⟩
          go_wp2_with fail
          all_goals go_ret
          all_goals exact ⟨by first | rfl | (simp; done), hb0.out⟩
        · have d1 : decide (since < 0) = false := decide_eq_false h1
          rw [show decide (0 ≤ since) = true by simp; omega]
          clear h1
          by_cases h2 : n < since
          · have d2 : decide (n < since) = true := decide_eq_true h2
            rw [show decide (since ≤ n) = false by simp; omega]
            clear h2
            go_enter Try.func35, Try.ntmps35
            go_wp2_with fail
            refine (Km.out _).mono ?_
            rintro e w' ⟨rfl, rfl⟩
            go_wp2_with fail
            refine (Kw.out _).mono ?_
            rintro e w' ⟨rfl, rfl⟩
            go_wp2_with fail
            all_goals go_ret
            all_goals exact ⟨by first | rfl | (simp; done), hb0.out⟩
          · have d2 : decide (n < since) = false := decide_eq_false h2
            rw [show decide (since ≤ n) = true by simp; omega]
            clear h2
            by_cases h3 : 0 < since
            · rw [decide_eq_true h3] at HW
              rw [if_pos h3]
              clear h3
              go_enter Try.func35, Try.ntmps35
              go_wp2_with fail
              refine (Km.out _).mono ?_
              rintro e w' ⟨rfl, rfl⟩
              go_wp2_with fail
              refine (Kw.out _).mono ?_
              rintro e w' ⟨rfl, rfl⟩
              go_wp2_with fail
              refine (HW.out _).mono ?_
              rintro e w1 ⟨rfl, b1⟩
              obtain ⟨c0, c1, c2, c3, c4⟩ := cellsA b1 _ _ _ _ _ rfl
              have hb1 := Lib.hid (belA _ b1)
              clear b1
              go_wp2_with fail
              refine (HC.out _).mono ?_
              rintro e w2 ⟨rfl, b2⟩
              replace hb1 := Lib.hid (belT hb1.out b2)
              clear b2 c0 c1 c2 c3 c4
              go_wp2_with fail
              all_goals go_ret
              all_goals exact ⟨by first | rfl | (simp; done), hb1.out⟩
            · rw [decide_eq_false h3] at HW
              rw [if_neg h3]
              clear h3
              cases hmo : mode != 0 with
              | false =>
                rw [hmo] at HH
                go_enter Try.func35, Try.ntmps35
                go_wp2_with fail
                refine (Km.out _).mono ?_
                rintro e w' ⟨rfl, rfl⟩
                go_wp2_with fail
                refine (Kw.out _).mono ?_
                rintro e w' ⟨rfl, rfl⟩
                go_wp2_with fail
                refine (HW.out _).mono ?_
                rintro e w1 ⟨rfl, b1⟩
                obtain ⟨c0, c1, c2, c3, c4⟩ := cellsA b1 _ _ _ _ _ rfl
                have hb1 := Lib.hid (belA _ b1)
                clear b1
                go_wp2_with fail
                refine (HH.out _).mono ?_
                rintro e w2 ⟨rfl, b2⟩
                replace hb1 := Lib.hid (belT hb1.out b2)
                clear b2 c0 c1 c2 c3 c4
                go_wp2_with fail
                all_goals go_ret
                all_goals exact ⟨by first | rfl | (simp; done), hb1.out⟩
              | true =>
                rw [hmo] at HH
                go_enter Try.func35, Try.ntmps35
                go_wp2_with fail
                refine (Km.out _).mono ?_
                rintro e w' ⟨rfl, rfl⟩
                go_wp2_with fail
                refine (Kw.out _).mono ?_
                rintro e w' ⟨rfl, rfl⟩
                go_wp2_with fail
                refine (HW.out _).mono ?_
                rintro e w1 ⟨rfl, b1⟩
                obtain ⟨c0, c1, c2, c3, c4⟩ := cellsA b1 _ _ _ _ _ rfl
                have hb1 := Lib.hid (belA _ b1)
                clear b1
                have hcc := Lib.hid (And.intro c2 c3)
                go_wp2_with fail
                refine (HH.out _).mono ?_
                rintro e w2 ⟨rfl, b2⟩
                have l1 := World.block_lt_of_cell? _ _ c0
                replace c2 := (b2.cell (p := ⟨w.heap.size, 2, none⟩) l1).trans c2
                replace c3 := (b2.cell (p := ⟨w.heap.size, 3, none⟩) l1).trans c3
                replace hb1 := Lib.hid (belT hb1.out b2)
                clear b2 c0 c1 c4
                go_wp2_with fail
                all_goals go_ret
                all_goals exact ⟨by first | rfl | (simp; done), hb1.out⟩
end Go.Proofs.Ytmacpjnkmkaloaa
