/-
  Contracts and plain laws that the walk leans on, part 4. No condition.
-/
import Derived.Test.YtcnkmhfcgkbhbaaGreatZCl3
namespace Go.Proofs.YtcnkmhfcgkbhbaaGreat
open Go.RowKit
/-- Do two requests, the first ahead of the second, not go together? -/
def pairB (a b : Rq) : Bool := ((a.id == b.id || a.txn == b.txn) || (decide (0 < a.since) && a.since == b.since)) || (!(a.mode != 0) && (b.mode != 0 || decide (b.since < a.since))) || ((a.mode != 0 && b.mode != 0) && !comB a.mode b.mode)
def okQB (n : Int) (l : List Rq) (i : Nat) : Bool := rightB (l.getD i default) n && !((l.take i).any fun a => pairB a (l.getD i default))
def checkB (n : Int) (l : List Rq) : Bool := decide (0 ≤ n) && (decide (n ≤ 4611686018427387904) && (List.range l.length).all (okQB n l))
theorem checkB_bad (n : Int) (l : List Rq) (i : Nat) (hi : i < l.length) (h : okQB n l i = false) : checkB n l = false := by
  have : (List.range l.length).all (okQB n l) = false := by
    rw [List.all_eq_false]
    exact ⟨i, List.mem_range.2 hi, by simp [h]⟩
  simp [checkB, this]
theorem checkB_good (n : Int) (l : List Rq) (h0 : ¬ n < 0) (h1 : ¬ 4611686018427387904 < n) (h : ∀ i, i < l.length → okQB n l i = true) : checkB n l = true := by
  have : (List.range l.length).all (okQB n l) = true := by
    rw [List.all_eq_true]
    exact fun i hi => h i (List.mem_range.1 hi)
  simp [checkB, this]; omega
theorem any_take_succ {α : Type} [Inhabited α] (p : α → Bool) (l : List α) (k : Nat) (hk : k < l.length) : (l.take (k + 1)).any p = ((l.take k).any p || p (l.getD k default)) := by
  rw [List.take_add_one, List.any_append]
  simp [List.getD, hk]
theorem any_take_true {α : Type} [Inhabited α] (p : α → Bool) (l : List α) (k i : Nat) (hk : k < l.length) (hki : k < i) (h : p (l.getD k default) = true) : (l.take i).any p = true := by
  rw [List.any_eq_true]
  refine ⟨l.getD k default, ?_, h⟩
  rw [List.mem_iff_getElem]
  exact ⟨k, by rw [List.length_take]; omega, by simp [List.getD, hk]⟩
set_option maxHeartbeats 4000000 in
set_option maxRecDepth 100000 in
theorem checkR_any (t r n : Int) (v : Value) (l : List Rq) (w : World) (hv : RQ w v l) (hl : l.length ≤ 1000) :
    Calls Tryz.prog 36 #[hval t r v n] w fun e w' => e = .returned (.int .i64 (if checkB n l then 0 else 2)) ∧ Below w.heap.size w w' := by
  have h0 : ∀ b0, Sep (w.alloc (.cells b0 61)) [blk w.heap.size 61 b0, old w] := fun b0 => (Sep.start w).alloc b0 61
  have HU := Lib.hid (fun q w => holdsR_any q w)
  have HV := Lib.hid (fun q w => waitsR_any q w)
  have HR := Lib.hid (fun q w => rightR_any q n w)
  have HC := Lib.hid (fun x y w => compatR_any x y w)
  replace h0 := Lib.hid h0
  obtain ⟨a, c, rfl, hlc, _, hr⟩ := hv
  replace hr := Lib.hid hr
  unfold hval
  have hS := Lib.hid (h0.out #[.int .i64 t, .int .i64 r, .slice a l.length c, .int .i64 n])
  clear h0
  by_cases hn0 : n < 0
  · have d0 : decide (n < 0) = true := decide_eq_true hn0
    rw [show checkB n l = false by simp [checkB]; omega]
    clear hn0
    go_enter Tryz.func36, Tryz.ntmps36
    go_wp2_with fail
    go_ret
    exact ⟨rfl, hS.out.to1.gold⟩
  have d0 : decide (n < 0) = false := decide_eq_false hn0
  by_cases hn1 : 4611686018427387904 < n
  · have d1 : decide (4611686018427387904 < n) = true := decide_eq_true hn1
    rw [show checkB n l = false by simp [checkB]; omega]
    clear hn0 hn1
    go_enter Tryz.func36, Tryz.ntmps36
    go_wp2_with fail
    go_ret
    exact ⟨rfl, hS.out.to1.gold⟩
  have d1 : decide (4611686018427387904 < n) = false := decide_eq_false hn1
  have hN := Lib.hid (And.intro hn0 hn1)
  clear hn0 hn1
  generalize hck : (if checkB n l = true then (0 : Int) else 2) = ck
  replace hck := Lib.hid hck
  go_enter Tryz.func36, Tryz.ntmps36
  go_wp2_with fail
  clear d0 d1
  generalize hn : l.length = m at *
  replace hn := Lib.hid hn
  go_loopg [3] m (fun g i wr => ∃ k : Nat, k ≤ m ∧ g = m - k ∧ i = .int .i64 k ∧ Hid (∀ j, j < k → okQB n l j = true) ∧ Hid (Sep wr [blk w.heap.size 61 #[.int .i64 t, .int .i64 r, .slice a m c, .int .i64 n], old w]))
  case atStart => exact ⟨0, Nat.zero_le _, rfl, rfl, (fun j hj => absurd hj (Nat.not_lt_zero j)), hS⟩
  case round =>
    clear hS
    obtain ⟨i, hi, hg, rfl, hA, hS⟩ := hrel
    obtain ⟨x1, _, _, x2, x3, _⟩ := hS.out.b4
    by_cases hlt : i < m
    · obtain ⟨b, off, rfl, hbl, hz⟩ := hr.out (by have := hn.out; omega)
      obtain ⟨z0, z1, z2, z3, z4⟩ := hz i (by have := hn.out; omega)
      have kk : ∀ o, wr.cell? ⟨b, o, none⟩ = w.cell? ⟨b, o, none⟩ := fun o => hS.out.to1.gold.cell (p := ⟨b, o, none⟩) hbl
      rw [← kk] at z0 z1 z2 z3 z4
      have hok := Lib.hid (show okQB n l i = (rightB (l.getD i default) n && !((l.take i).any fun a => pairB a (l.getD i default))) from rfl)
      have hzz := Lib.hid hz
      have hbb := Lib.hid hbl
      clear kk hz hbl
      generalize l.getD i default = q at *
      have HQ := Lib.hid (fun w => HR.out q w)
      have HB := Lib.hid (fun w => HU.out q w)
      have hS2 := Lib.hid (hS.out.alloc q.cells.toArray 64)
      obtain ⟨id, txn, mode, want, since⟩ := q
      simp only [Rq.val] at HQ HB
      simp only [Rq.cells] at hS2
      obtain ⟨_, p0, p1, p2, p3, p4, _⟩ := hS2.out.b5
      obtain ⟨_, _, _, p5, p6, _⟩ := hS2.out.to1.b4
      cases hrb : rightB ⟨id, txn, mode, want, since⟩ n with
      | false =>
        rw [hrb] at HQ
        have E := Lib.hid (checkB_bad n l i (by rw [hn.out]; exact hlt) (by rw [hok.out, hrb]; rfl))
        go_wp2_with fail
        refine (HQ.out _).mono ?_
        rintro e w1 ⟨rfl, b1⟩
        replace hS2 := Lib.hid (hS2.out.below b1)
        clear b1 p0 p1 p2 p3 p4 p5 p6 x1 x2 x3 z0 z1 z2 z3 z4
        go_wp2_with fail
        go_ret
        exact ⟨by rw [← hck.out, E.out]; rfl, hS2.out.tail.tail.gold⟩
      | true =>
        rw [hrb] at HQ
        rw [hrb] at hok
        have hgb := Lib.hid (rfl : wr.heap.size = wr.heap.size)
        go_wp2_with fail
        refine (HQ.out _).mono ?_
        rintro e w1 ⟨rfl, b1⟩
        replace hS2 := Lib.hid (hS2.out.below b1)
        clear b1 p0 p1 p2 p3 p4 p5 p6 x1 x2 x3 z0 z1 z2 z3 z4 HQ hgb hS
        generalize wr.heap.size = gb at *
        go_wp2_with fail
        go_loopg [5] i (fun g k wr => ∃ j : Nat, j ≤ i ∧ g = i - j ∧ k = .int .i64 j ∧ Hid ((l.take j).any (fun a => pairB a ⟨id, txn, mode, want, since⟩) = false) ∧ Hid (Sep wr [blk gb 64 #[.int .i64 id, .int .i64 txn, .int .i64 mode, .int .i64 want, .int .i64 since], blk w.heap.size 61 #[.int .i64 t, .int .i64 r, .slice (some ⟨b, off, none⟩) m c, .int .i64 n], old w]))
        case atStart => exact ⟨0, Nat.zero_le _, rfl, rfl, (show (List.any [] _ = false) from rfl), hS2⟩
        case round =>
          clear hS2
          obtain ⟨j, hj, hg2, rfl, hAny, hS2⟩ := hrel
          obtain ⟨_, p0, p1, p2, p3, p4, _⟩ := hS2.out.b5
          obtain ⟨_, _, _, p5, p6, _⟩ := hS2.out.to1.b4
          by_cases hlt2 : j < i
          · obtain ⟨z0, z1, z2, z3, z4⟩ := hzz.out j (by have := hn.out; omega)
            have kk : ∀ o, wr.cell? ⟨b, o, none⟩ = w.cell? ⟨b, o, none⟩ := fun o => hS2.out.tail.tail.gold.cell (p := ⟨b, o, none⟩) hbb.out
            rw [← kk] at z0 z1 z2 z3 z4
            clear kk
            have hT := Lib.hid (fun h : pairB (l.getD j default) ⟨id, txn, mode, want, since⟩ = true => checkB_bad n l i (by rw [hn.out]; exact hlt) (by rw [hok.out, any_take_true (fun a => pairB a ⟨id, txn, mode, want, since⟩) l j i (by rw [hn.out]; omega) hlt2 h]; rfl))
            have hF := Lib.hid (fun h : pairB (l.getD j default) ⟨id, txn, mode, want, since⟩ = false => show (l.take (j + 1)).any (fun a => pairB a ⟨id, txn, mode, want, since⟩) = false by rw [any_take_succ _ l j (by rw [hn.out]; omega), hAny.out, h]; rfl)
            generalize l.getD j default = q at *
            have HA := Lib.hid (fun w => HU.out q w)
            have HW := Lib.hid (fun w => HV.out q w)
            have HP := Lib.hid (fun w => HC.out q.mode mode w)
            have hS3 := Lib.hid (hS2.out.alloc q.cells.toArray 64)
            obtain ⟨id2, txn2, mode2, want2, since2⟩ := q
            simp only [Rq.val] at HA HW HP
            simp only [Rq.cells] at hS3
            obtain ⟨_, q0, q1, q2, q3, q4, _⟩ := hS3.out.b5
            obtain ⟨_, p0, p1, p2, p3, p4, _⟩ := hS3.out.to1.b5
            obtain ⟨_, _, _, p5, p6, _⟩ := hS3.out.to2.b4
            clear hS2
            cases h1 : id2 == id with
            | true =>
              have E := Lib.hid (hT.out (by simp only [pairB, h1]; first | rfl | (simp; done)))
              clear hT hF
              go_wp2_with fail
              go_ret
              exact ⟨by rw [← hck.out, E.out]; rfl, hS3.out.tail.tail.tail.gold⟩
            | false =>
              cases h2 : txn2 == txn with
              | true =>
                have E := Lib.hid (hT.out (by simp only [pairB, h1, h2]; first | rfl | (simp; done)))
                clear hT hF
                go_wp2_with fail
                go_ret
                exact ⟨by rw [← hck.out, E.out]; rfl, hS3.out.tail.tail.tail.gold⟩
              | false =>
                cases hw : decide (0 < since2) with
                | true =>
                  rw [hw] at HW
                  cases h3 : since2 == since with
                  | true =>
                    have E := Lib.hid (hT.out (by simp only [pairB, h1, h2, hw, h3]; first | rfl | (simp; done)))
                    clear hT hF
                    go_wp2_with fail
                    refine (HW.out _).mono ?_
                    rintro e w2 ⟨rfl, b2⟩
                    replace hS3 := Lib.hid (hS3.out.below b2)
                    clear b2 q0 q1 q2 q3 q4 p0 p1 p2 p3 p4 p5 p6
                    obtain ⟨_, q0, q1, q2, q3, q4, _⟩ := hS3.out.b5
                    obtain ⟨_, p0, p1, p2, p3, p4, _⟩ := hS3.out.to1.b5
                    obtain ⟨_, _, _, p5, p6, _⟩ := hS3.out.to2.b4
                    go_wp2_with fail
                    go_ret
                    exact ⟨by rw [← hck.out, E.out]; rfl, hS3.out.tail.tail.tail.gold⟩
                  | false =>
                    cases h4 : mode2 != 0 with
                    | true =>
                      rw [h4] at HA
                      cases h5 : mode != 0 with
                      | true =>
                        rw [h5] at HB
                        cases h6 : comB mode2 mode with
                        | true =>
                          rw [h6] at HP
                          have E := Lib.hid (hF.out (by simp only [pairB, h1, h2, hw, h3, h4, h5, h6]; first | rfl | (simp; done)))
                          clear hT hF
                          go_wp2_with fail
                          refine (HW.out _).mono ?_
                          rintro e w2 ⟨rfl, b2⟩
                          replace hS3 := Lib.hid (hS3.out.below b2)
                          clear b2 q0 q1 q2 q3 q4 p0 p1 p2 p3 p4 p5 p6
                          obtain ⟨_, q0, q1, q2, q3, q4, _⟩ := hS3.out.b5
                          obtain ⟨_, p0, p1, p2, p3, p4, _⟩ := hS3.out.to1.b5
                          obtain ⟨_, _, _, p5, p6, _⟩ := hS3.out.to2.b4
                          go_wp2_with fail
                          refine (HA.out _).mono ?_
                          rintro e w2 ⟨rfl, b2⟩
                          replace hS3 := Lib.hid (hS3.out.below b2)
                          clear b2 q0 q1 q2 q3 q4 p0 p1 p2 p3 p4 p5 p6
                          obtain ⟨_, q0, q1, q2, q3, q4, _⟩ := hS3.out.b5
                          obtain ⟨_, p0, p1, p2, p3, p4, _⟩ := hS3.out.to1.b5
                          obtain ⟨_, _, _, p5, p6, _⟩ := hS3.out.to2.b4
                          go_wp2_with fail
                          refine (HA.out _).mono ?_
                          rintro e w2 ⟨rfl, b2⟩
                          replace hS3 := Lib.hid (hS3.out.below b2)
                          clear b2 q0 q1 q2 q3 q4 p0 p1 p2 p3 p4 p5 p6
                          obtain ⟨_, q0, q1, q2, q3, q4, _⟩ := hS3.out.b5
                          obtain ⟨_, p0, p1, p2, p3, p4, _⟩ := hS3.out.to1.b5
                          obtain ⟨_, _, _, p5, p6, _⟩ := hS3.out.to2.b4
                          go_wp2_with fail
                          refine (HB.out _).mono ?_
                          rintro e w2 ⟨rfl, b2⟩
                          replace hS3 := Lib.hid (hS3.out.below b2)
                          clear b2 q0 q1 q2 q3 q4 p0 p1 p2 p3 p4 p5 p6
                          obtain ⟨_, q0, q1, q2, q3, q4, _⟩ := hS3.out.b5
                          obtain ⟨_, p0, p1, p2, p3, p4, _⟩ := hS3.out.to1.b5
                          obtain ⟨_, _, _, p5, p6, _⟩ := hS3.out.to2.b4
                          go_wp2_with fail
                          refine (HP.out _).mono ?_
                          rintro e w2 ⟨rfl, b2⟩
                          replace hS3 := Lib.hid (hS3.out.below b2)
                          clear b2 q0 q1 q2 q3 q4 p0 p1 p2 p3 p4 p5 p6
                          obtain ⟨_, q0, q1, q2, q3, q4, _⟩ := hS3.out.b5
                          obtain ⟨_, p0, p1, p2, p3, p4, _⟩ := hS3.out.to1.b5
                          obtain ⟨_, _, _, p5, p6, _⟩ := hS3.out.to2.b4
                          go_wp2_with fail
                          go_roundg (i - (j + 1))
                          case measure => omega
                          case rel => exact ⟨j + 1, by omega, rfl, by go_num, E, hS3.out.tail⟩
                        | false =>
                          rw [h6] at HP
                          have E := Lib.hid (hT.out (by simp only [pairB, h1, h2, hw, h3, h4, h5, h6]; first | rfl | (simp; done)))
                          clear hT hF
                          go_wp2_with fail
                          refine (HW.out _).mono ?_
                          rintro e w2 ⟨rfl, b2⟩
                          replace hS3 := Lib.hid (hS3.out.below b2)
                          clear b2 q0 q1 q2 q3 q4 p0 p1 p2 p3 p4 p5 p6
                          obtain ⟨_, q0, q1, q2, q3, q4, _⟩ := hS3.out.b5
                          obtain ⟨_, p0, p1, p2, p3, p4, _⟩ := hS3.out.to1.b5
                          obtain ⟨_, _, _, p5, p6, _⟩ := hS3.out.to2.b4
                          go_wp2_with fail
                          refine (HA.out _).mono ?_
                          rintro e w2 ⟨rfl, b2⟩
                          replace hS3 := Lib.hid (hS3.out.below b2)
                          clear b2 q0 q1 q2 q3 q4 p0 p1 p2 p3 p4 p5 p6
                          obtain ⟨_, q0, q1, q2, q3, q4, _⟩ := hS3.out.b5
                          obtain ⟨_, p0, p1, p2, p3, p4, _⟩ := hS3.out.to1.b5
                          obtain ⟨_, _, _, p5, p6, _⟩ := hS3.out.to2.b4
                          go_wp2_with fail
                          refine (HA.out _).mono ?_
                          rintro e w2 ⟨rfl, b2⟩
                          replace hS3 := Lib.hid (hS3.out.below b2)
                          clear b2 q0 q1 q2 q3 q4 p0 p1 p2 p3 p4 p5 p6
                          obtain ⟨_, q0, q1, q2, q3, q4, _⟩ := hS3.out.b5
                          obtain ⟨_, p0, p1, p2, p3, p4, _⟩ := hS3.out.to1.b5
                          obtain ⟨_, _, _, p5, p6, _⟩ := hS3.out.to2.b4
                          go_wp2_with fail
                          refine (HB.out _).mono ?_
                          rintro e w2 ⟨rfl, b2⟩
                          replace hS3 := Lib.hid (hS3.out.below b2)
                          clear b2 q0 q1 q2 q3 q4 p0 p1 p2 p3 p4 p5 p6
                          obtain ⟨_, q0, q1, q2, q3, q4, _⟩ := hS3.out.b5
                          obtain ⟨_, p0, p1, p2, p3, p4, _⟩ := hS3.out.to1.b5
                          obtain ⟨_, _, _, p5, p6, _⟩ := hS3.out.to2.b4
                          go_wp2_with fail
                          refine (HP.out _).mono ?_
                          rintro e w2 ⟨rfl, b2⟩
                          replace hS3 := Lib.hid (hS3.out.below b2)
                          clear b2 q0 q1 q2 q3 q4 p0 p1 p2 p3 p4 p5 p6
                          obtain ⟨_, q0, q1, q2, q3, q4, _⟩ := hS3.out.b5
                          obtain ⟨_, p0, p1, p2, p3, p4, _⟩ := hS3.out.to1.b5
                          obtain ⟨_, _, _, p5, p6, _⟩ := hS3.out.to2.b4
                          go_wp2_with fail
                          go_ret
                          exact ⟨by rw [← hck.out, E.out]; rfl, hS3.out.tail.tail.tail.gold⟩
                      | false =>
                        rw [h5] at HB
                        have E := Lib.hid (hF.out (by simp only [pairB, h1, h2, hw, h3, h4, h5]; first | rfl | (simp; done)))
                        clear hT hF
                        go_wp2_with fail
                        refine (HW.out _).mono ?_
                        rintro e w2 ⟨rfl, b2⟩
                        replace hS3 := Lib.hid (hS3.out.below b2)
                        clear b2 q0 q1 q2 q3 q4 p0 p1 p2 p3 p4 p5 p6
                        obtain ⟨_, q0, q1, q2, q3, q4, _⟩ := hS3.out.b5
                        obtain ⟨_, p0, p1, p2, p3, p4, _⟩ := hS3.out.to1.b5
                        obtain ⟨_, _, _, p5, p6, _⟩ := hS3.out.to2.b4
                        go_wp2_with fail
                        refine (HA.out _).mono ?_
                        rintro e w2 ⟨rfl, b2⟩
                        replace hS3 := Lib.hid (hS3.out.below b2)
                        clear b2 q0 q1 q2 q3 q4 p0 p1 p2 p3 p4 p5 p6
                        obtain ⟨_, q0, q1, q2, q3, q4, _⟩ := hS3.out.b5
                        obtain ⟨_, p0, p1, p2, p3, p4, _⟩ := hS3.out.to1.b5
                        obtain ⟨_, _, _, p5, p6, _⟩ := hS3.out.to2.b4
                        go_wp2_with fail
                        refine (HA.out _).mono ?_
                        rintro e w2 ⟨rfl, b2⟩
                        replace hS3 := Lib.hid (hS3.out.below b2)
                        clear b2 q0 q1 q2 q3 q4 p0 p1 p2 p3 p4 p5 p6
                        obtain ⟨_, q0, q1, q2, q3, q4, _⟩ := hS3.out.b5
                        obtain ⟨_, p0, p1, p2, p3, p4, _⟩ := hS3.out.to1.b5
                        obtain ⟨_, _, _, p5, p6, _⟩ := hS3.out.to2.b4
                        go_wp2_with fail
                        refine (HB.out _).mono ?_
                        rintro e w2 ⟨rfl, b2⟩
                        replace hS3 := Lib.hid (hS3.out.below b2)
                        clear b2 q0 q1 q2 q3 q4 p0 p1 p2 p3 p4 p5 p6
                        obtain ⟨_, q0, q1, q2, q3, q4, _⟩ := hS3.out.b5
                        obtain ⟨_, p0, p1, p2, p3, p4, _⟩ := hS3.out.to1.b5
                        obtain ⟨_, _, _, p5, p6, _⟩ := hS3.out.to2.b4
                        go_wp2_with fail
                        go_roundg (i - (j + 1))
                        case measure => omega
                        case rel => exact ⟨j + 1, by omega, rfl, by go_num, E, hS3.out.tail⟩
                    | false =>
                      rw [h4] at HA
                      cases h5 : mode != 0 with
                      | true =>
                        rw [h5] at HB
                        have E := Lib.hid (hT.out (by simp only [pairB, h1, h2, hw, h3, h4, h5]; first | rfl | (simp; done)))
                        clear hT hF
                        go_wp2_with fail
                        refine (HW.out _).mono ?_
                        rintro e w2 ⟨rfl, b2⟩
                        replace hS3 := Lib.hid (hS3.out.below b2)
                        clear b2 q0 q1 q2 q3 q4 p0 p1 p2 p3 p4 p5 p6
                        obtain ⟨_, q0, q1, q2, q3, q4, _⟩ := hS3.out.b5
                        obtain ⟨_, p0, p1, p2, p3, p4, _⟩ := hS3.out.to1.b5
                        obtain ⟨_, _, _, p5, p6, _⟩ := hS3.out.to2.b4
                        go_wp2_with fail
                        refine (HA.out _).mono ?_
                        rintro e w2 ⟨rfl, b2⟩
                        replace hS3 := Lib.hid (hS3.out.below b2)
                        clear b2 q0 q1 q2 q3 q4 p0 p1 p2 p3 p4 p5 p6
                        obtain ⟨_, q0, q1, q2, q3, q4, _⟩ := hS3.out.b5
                        obtain ⟨_, p0, p1, p2, p3, p4, _⟩ := hS3.out.to1.b5
                        obtain ⟨_, _, _, p5, p6, _⟩ := hS3.out.to2.b4
                        go_wp2_with fail
                        refine (HB.out _).mono ?_
                        rintro e w2 ⟨rfl, b2⟩
                        replace hS3 := Lib.hid (hS3.out.below b2)
                        clear b2 q0 q1 q2 q3 q4 p0 p1 p2 p3 p4 p5 p6
                        obtain ⟨_, q0, q1, q2, q3, q4, _⟩ := hS3.out.b5
                        obtain ⟨_, p0, p1, p2, p3, p4, _⟩ := hS3.out.to1.b5
                        obtain ⟨_, _, _, p5, p6, _⟩ := hS3.out.to2.b4
                        go_wp2_with fail
                        go_ret
                        exact ⟨by rw [← hck.out, E.out]; rfl, hS3.out.tail.tail.tail.gold⟩
                      | false =>
                        rw [h5] at HB
                        cases h6 : decide (since < since2) with
                        | true =>
                          have E := Lib.hid (hT.out (by simp only [pairB, h1, h2, hw, h3, h4, h5, h6]; first | rfl | (simp; done)))
                          clear hT hF
                          go_wp2_with fail
                          refine (HW.out _).mono ?_
                          rintro e w2 ⟨rfl, b2⟩
                          replace hS3 := Lib.hid (hS3.out.below b2)
                          clear b2 q0 q1 q2 q3 q4 p0 p1 p2 p3 p4 p5 p6
                          obtain ⟨_, q0, q1, q2, q3, q4, _⟩ := hS3.out.b5
                          obtain ⟨_, p0, p1, p2, p3, p4, _⟩ := hS3.out.to1.b5
                          obtain ⟨_, _, _, p5, p6, _⟩ := hS3.out.to2.b4
                          go_wp2_with fail
                          refine (HA.out _).mono ?_
                          rintro e w2 ⟨rfl, b2⟩
                          replace hS3 := Lib.hid (hS3.out.below b2)
                          clear b2 q0 q1 q2 q3 q4 p0 p1 p2 p3 p4 p5 p6
                          obtain ⟨_, q0, q1, q2, q3, q4, _⟩ := hS3.out.b5
                          obtain ⟨_, p0, p1, p2, p3, p4, _⟩ := hS3.out.to1.b5
                          obtain ⟨_, _, _, p5, p6, _⟩ := hS3.out.to2.b4
                          go_wp2_with fail
                          refine (HB.out _).mono ?_
                          rintro e w2 ⟨rfl, b2⟩
                          replace hS3 := Lib.hid (hS3.out.below b2)
                          clear b2 q0 q1 q2 q3 q4 p0 p1 p2 p3 p4 p5 p6
                          obtain ⟨_, q0, q1, q2, q3, q4, _⟩ := hS3.out.b5
                          obtain ⟨_, p0, p1, p2, p3, p4, _⟩ := hS3.out.to1.b5
                          obtain ⟨_, _, _, p5, p6, _⟩ := hS3.out.to2.b4
                          go_wp2_with fail
                          go_ret
                          exact ⟨by rw [← hck.out, E.out]; rfl, hS3.out.tail.tail.tail.gold⟩
                        | false =>
                          have E := Lib.hid (hF.out (by simp only [pairB, h1, h2, hw, h3, h4, h5, h6]; first | rfl | (simp; done)))
                          clear hT hF
                          go_wp2_with fail
                          refine (HW.out _).mono ?_
                          rintro e w2 ⟨rfl, b2⟩
                          replace hS3 := Lib.hid (hS3.out.below b2)
                          clear b2 q0 q1 q2 q3 q4 p0 p1 p2 p3 p4 p5 p6
                          obtain ⟨_, q0, q1, q2, q3, q4, _⟩ := hS3.out.b5
                          obtain ⟨_, p0, p1, p2, p3, p4, _⟩ := hS3.out.to1.b5
                          obtain ⟨_, _, _, p5, p6, _⟩ := hS3.out.to2.b4
                          go_wp2_with fail
                          refine (HA.out _).mono ?_
                          rintro e w2 ⟨rfl, b2⟩
                          replace hS3 := Lib.hid (hS3.out.below b2)
                          clear b2 q0 q1 q2 q3 q4 p0 p1 p2 p3 p4 p5 p6
                          obtain ⟨_, q0, q1, q2, q3, q4, _⟩ := hS3.out.b5
                          obtain ⟨_, p0, p1, p2, p3, p4, _⟩ := hS3.out.to1.b5
                          obtain ⟨_, _, _, p5, p6, _⟩ := hS3.out.to2.b4
                          go_wp2_with fail
                          refine (HB.out _).mono ?_
                          rintro e w2 ⟨rfl, b2⟩
                          replace hS3 := Lib.hid (hS3.out.below b2)
                          clear b2 q0 q1 q2 q3 q4 p0 p1 p2 p3 p4 p5 p6
                          obtain ⟨_, q0, q1, q2, q3, q4, _⟩ := hS3.out.b5
                          obtain ⟨_, p0, p1, p2, p3, p4, _⟩ := hS3.out.to1.b5
                          obtain ⟨_, _, _, p5, p6, _⟩ := hS3.out.to2.b4
                          go_wp2_with fail
                          refine (HA.out _).mono ?_
                          rintro e w2 ⟨rfl, b2⟩
                          replace hS3 := Lib.hid (hS3.out.below b2)
                          clear b2 q0 q1 q2 q3 q4 p0 p1 p2 p3 p4 p5 p6
                          obtain ⟨_, q0, q1, q2, q3, q4, _⟩ := hS3.out.b5
                          obtain ⟨_, p0, p1, p2, p3, p4, _⟩ := hS3.out.to1.b5
                          obtain ⟨_, _, _, p5, p6, _⟩ := hS3.out.to2.b4
                          go_wp2_with fail
                          go_roundg (i - (j + 1))
                          case measure => omega
                          case rel => exact ⟨j + 1, by omega, rfl, by go_num, E, hS3.out.tail⟩
                | false =>
                  rw [hw] at HW
                  cases h4 : mode2 != 0 with
                  | true =>
                    rw [h4] at HA
                    cases h5 : mode != 0 with
                    | true =>
                      rw [h5] at HB
                      cases h6 : comB mode2 mode with
                      | true =>
                        rw [h6] at HP
                        have E := Lib.hid (hF.out (by simp only [pairB, h1, h2, hw, h4, h5, h6]; first | rfl | (simp; done)))
                        clear hT hF
                        go_wp2_with fail
                        refine (HW.out _).mono ?_
                        rintro e w2 ⟨rfl, b2⟩
                        replace hS3 := Lib.hid (hS3.out.below b2)
                        clear b2 q0 q1 q2 q3 q4 p0 p1 p2 p3 p4 p5 p6
                        obtain ⟨_, q0, q1, q2, q3, q4, _⟩ := hS3.out.b5
                        obtain ⟨_, p0, p1, p2, p3, p4, _⟩ := hS3.out.to1.b5
                        obtain ⟨_, _, _, p5, p6, _⟩ := hS3.out.to2.b4
                        go_wp2_with fail
                        refine (HA.out _).mono ?_
                        rintro e w2 ⟨rfl, b2⟩
                        replace hS3 := Lib.hid (hS3.out.below b2)
                        clear b2 q0 q1 q2 q3 q4 p0 p1 p2 p3 p4 p5 p6
                        obtain ⟨_, q0, q1, q2, q3, q4, _⟩ := hS3.out.b5
                        obtain ⟨_, p0, p1, p2, p3, p4, _⟩ := hS3.out.to1.b5
                        obtain ⟨_, _, _, p5, p6, _⟩ := hS3.out.to2.b4
                        go_wp2_with fail
                        refine (HA.out _).mono ?_
                        rintro e w2 ⟨rfl, b2⟩
                        replace hS3 := Lib.hid (hS3.out.below b2)
                        clear b2 q0 q1 q2 q3 q4 p0 p1 p2 p3 p4 p5 p6
                        obtain ⟨_, q0, q1, q2, q3, q4, _⟩ := hS3.out.b5
                        obtain ⟨_, p0, p1, p2, p3, p4, _⟩ := hS3.out.to1.b5
                        obtain ⟨_, _, _, p5, p6, _⟩ := hS3.out.to2.b4
                        go_wp2_with fail
                        refine (HB.out _).mono ?_
                        rintro e w2 ⟨rfl, b2⟩
                        replace hS3 := Lib.hid (hS3.out.below b2)
                        clear b2 q0 q1 q2 q3 q4 p0 p1 p2 p3 p4 p5 p6
                        obtain ⟨_, q0, q1, q2, q3, q4, _⟩ := hS3.out.b5
                        obtain ⟨_, p0, p1, p2, p3, p4, _⟩ := hS3.out.to1.b5
                        obtain ⟨_, _, _, p5, p6, _⟩ := hS3.out.to2.b4
                        go_wp2_with fail
                        refine (HP.out _).mono ?_
                        rintro e w2 ⟨rfl, b2⟩
                        replace hS3 := Lib.hid (hS3.out.below b2)
                        clear b2 q0 q1 q2 q3 q4 p0 p1 p2 p3 p4 p5 p6
                        obtain ⟨_, q0, q1, q2, q3, q4, _⟩ := hS3.out.b5
                        obtain ⟨_, p0, p1, p2, p3, p4, _⟩ := hS3.out.to1.b5
                        obtain ⟨_, _, _, p5, p6, _⟩ := hS3.out.to2.b4
                        go_wp2_with fail
                        go_roundg (i - (j + 1))
                        case measure => omega
                        case rel => exact ⟨j + 1, by omega, rfl, by go_num, E, hS3.out.tail⟩
                      | false =>
                        rw [h6] at HP
                        have E := Lib.hid (hT.out (by simp only [pairB, h1, h2, hw, h4, h5, h6]; first | rfl | (simp; done)))
                        clear hT hF
                        go_wp2_with fail
                        refine (HW.out _).mono ?_
                        rintro e w2 ⟨rfl, b2⟩
                        replace hS3 := Lib.hid (hS3.out.below b2)
                        clear b2 q0 q1 q2 q3 q4 p0 p1 p2 p3 p4 p5 p6
                        obtain ⟨_, q0, q1, q2, q3, q4, _⟩ := hS3.out.b5
                        obtain ⟨_, p0, p1, p2, p3, p4, _⟩ := hS3.out.to1.b5
                        obtain ⟨_, _, _, p5, p6, _⟩ := hS3.out.to2.b4
                        go_wp2_with fail
                        refine (HA.out _).mono ?_
                        rintro e w2 ⟨rfl, b2⟩
                        replace hS3 := Lib.hid (hS3.out.below b2)
                        clear b2 q0 q1 q2 q3 q4 p0 p1 p2 p3 p4 p5 p6
                        obtain ⟨_, q0, q1, q2, q3, q4, _⟩ := hS3.out.b5
                        obtain ⟨_, p0, p1, p2, p3, p4, _⟩ := hS3.out.to1.b5
                        obtain ⟨_, _, _, p5, p6, _⟩ := hS3.out.to2.b4
                        go_wp2_with fail
                        refine (HA.out _).mono ?_
                        rintro e w2 ⟨rfl, b2⟩
                        replace hS3 := Lib.hid (hS3.out.below b2)
                        clear b2 q0 q1 q2 q3 q4 p0 p1 p2 p3 p4 p5 p6
                        obtain ⟨_, q0, q1, q2, q3, q4, _⟩ := hS3.out.b5
                        obtain ⟨_, p0, p1, p2, p3, p4, _⟩ := hS3.out.to1.b5
                        obtain ⟨_, _, _, p5, p6, _⟩ := hS3.out.to2.b4
                        go_wp2_with fail
                        refine (HB.out _).mono ?_
                        rintro e w2 ⟨rfl, b2⟩
                        replace hS3 := Lib.hid (hS3.out.below b2)
                        clear b2 q0 q1 q2 q3 q4 p0 p1 p2 p3 p4 p5 p6
                        obtain ⟨_, q0, q1, q2, q3, q4, _⟩ := hS3.out.b5
                        obtain ⟨_, p0, p1, p2, p3, p4, _⟩ := hS3.out.to1.b5
                        obtain ⟨_, _, _, p5, p6, _⟩ := hS3.out.to2.b4
                        go_wp2_with fail
                        refine (HP.out _).mono ?_
                        rintro e w2 ⟨rfl, b2⟩
                        replace hS3 := Lib.hid (hS3.out.below b2)
                        clear b2 q0 q1 q2 q3 q4 p0 p1 p2 p3 p4 p5 p6
                        obtain ⟨_, q0, q1, q2, q3, q4, _⟩ := hS3.out.b5
                        obtain ⟨_, p0, p1, p2, p3, p4, _⟩ := hS3.out.to1.b5
                        obtain ⟨_, _, _, p5, p6, _⟩ := hS3.out.to2.b4
                        go_wp2_with fail
                        go_ret
                        exact ⟨by rw [← hck.out, E.out]; rfl, hS3.out.tail.tail.tail.gold⟩
                    | false =>
                      rw [h5] at HB
                      have E := Lib.hid (hF.out (by simp only [pairB, h1, h2, hw, h4, h5]; first | rfl | (simp; done)))
                      clear hT hF
                      go_wp2_with fail
                      refine (HW.out _).mono ?_
                      rintro e w2 ⟨rfl, b2⟩
                      replace hS3 := Lib.hid (hS3.out.below b2)
                      clear b2 q0 q1 q2 q3 q4 p0 p1 p2 p3 p4 p5 p6
                      obtain ⟨_, q0, q1, q2, q3, q4, _⟩ := hS3.out.b5
                      obtain ⟨_, p0, p1, p2, p3, p4, _⟩ := hS3.out.to1.b5
                      obtain ⟨_, _, _, p5, p6, _⟩ := hS3.out.to2.b4
                      go_wp2_with fail
                      refine (HA.out _).mono ?_
                      rintro e w2 ⟨rfl, b2⟩
                      replace hS3 := Lib.hid (hS3.out.below b2)
                      clear b2 q0 q1 q2 q3 q4 p0 p1 p2 p3 p4 p5 p6
                      obtain ⟨_, q0, q1, q2, q3, q4, _⟩ := hS3.out.b5
                      obtain ⟨_, p0, p1, p2, p3, p4, _⟩ := hS3.out.to1.b5
                      obtain ⟨_, _, _, p5, p6, _⟩ := hS3.out.to2.b4
                      go_wp2_with fail
                      refine (HA.out _).mono ?_
                      rintro e w2 ⟨rfl, b2⟩
                      replace hS3 := Lib.hid (hS3.out.below b2)
                      clear b2 q0 q1 q2 q3 q4 p0 p1 p2 p3 p4 p5 p6
                      obtain ⟨_, q0, q1, q2, q3, q4, _⟩ := hS3.out.b5
                      obtain ⟨_, p0, p1, p2, p3, p4, _⟩ := hS3.out.to1.b5
                      obtain ⟨_, _, _, p5, p6, _⟩ := hS3.out.to2.b4
                      go_wp2_with fail
                      refine (HB.out _).mono ?_
                      rintro e w2 ⟨rfl, b2⟩
                      replace hS3 := Lib.hid (hS3.out.below b2)
                      clear b2 q0 q1 q2 q3 q4 p0 p1 p2 p3 p4 p5 p6
                      obtain ⟨_, q0, q1, q2, q3, q4, _⟩ := hS3.out.b5
                      obtain ⟨_, p0, p1, p2, p3, p4, _⟩ := hS3.out.to1.b5
                      obtain ⟨_, _, _, p5, p6, _⟩ := hS3.out.to2.b4
                      go_wp2_with fail
                      go_roundg (i - (j + 1))
                      case measure => omega
                      case rel => exact ⟨j + 1, by omega, rfl, by go_num, E, hS3.out.tail⟩
                  | false =>
                    rw [h4] at HA
                    cases h5 : mode != 0 with
                    | true =>
                      rw [h5] at HB
                      have E := Lib.hid (hT.out (by simp only [pairB, h1, h2, hw, h4, h5]; first | rfl | (simp; done)))
                      clear hT hF
                      go_wp2_with fail
                      refine (HW.out _).mono ?_
                      rintro e w2 ⟨rfl, b2⟩
                      replace hS3 := Lib.hid (hS3.out.below b2)
                      clear b2 q0 q1 q2 q3 q4 p0 p1 p2 p3 p4 p5 p6
                      obtain ⟨_, q0, q1, q2, q3, q4, _⟩ := hS3.out.b5
                      obtain ⟨_, p0, p1, p2, p3, p4, _⟩ := hS3.out.to1.b5
                      obtain ⟨_, _, _, p5, p6, _⟩ := hS3.out.to2.b4
                      go_wp2_with fail
                      refine (HA.out _).mono ?_
                      rintro e w2 ⟨rfl, b2⟩
                      replace hS3 := Lib.hid (hS3.out.below b2)
                      clear b2 q0 q1 q2 q3 q4 p0 p1 p2 p3 p4 p5 p6
                      obtain ⟨_, q0, q1, q2, q3, q4, _⟩ := hS3.out.b5
                      obtain ⟨_, p0, p1, p2, p3, p4, _⟩ := hS3.out.to1.b5
                      obtain ⟨_, _, _, p5, p6, _⟩ := hS3.out.to2.b4
                      go_wp2_with fail
                      refine (HB.out _).mono ?_
                      rintro e w2 ⟨rfl, b2⟩
                      replace hS3 := Lib.hid (hS3.out.below b2)
                      clear b2 q0 q1 q2 q3 q4 p0 p1 p2 p3 p4 p5 p6
                      obtain ⟨_, q0, q1, q2, q3, q4, _⟩ := hS3.out.b5
                      obtain ⟨_, p0, p1, p2, p3, p4, _⟩ := hS3.out.to1.b5
                      obtain ⟨_, _, _, p5, p6, _⟩ := hS3.out.to2.b4
                      go_wp2_with fail
                      go_ret
                      exact ⟨by rw [← hck.out, E.out]; rfl, hS3.out.tail.tail.tail.gold⟩
                    | false =>
                      rw [h5] at HB
                      cases h6 : decide (since < since2) with
                      | true =>
                        have E := Lib.hid (hT.out (by simp only [pairB, h1, h2, hw, h4, h5, h6]; first | rfl | (simp; done)))
                        clear hT hF
                        go_wp2_with fail
                        refine (HW.out _).mono ?_
                        rintro e w2 ⟨rfl, b2⟩
                        replace hS3 := Lib.hid (hS3.out.below b2)
                        clear b2 q0 q1 q2 q3 q4 p0 p1 p2 p3 p4 p5 p6
                        obtain ⟨_, q0, q1, q2, q3, q4, _⟩ := hS3.out.b5
                        obtain ⟨_, p0, p1, p2, p3, p4, _⟩ := hS3.out.to1.b5
                        obtain ⟨_, _, _, p5, p6, _⟩ := hS3.out.to2.b4
                        go_wp2_with fail
                        refine (HA.out _).mono ?_
                        rintro e w2 ⟨rfl, b2⟩
                        replace hS3 := Lib.hid (hS3.out.below b2)
                        clear b2 q0 q1 q2 q3 q4 p0 p1 p2 p3 p4 p5 p6
                        obtain ⟨_, q0, q1, q2, q3, q4, _⟩ := hS3.out.b5
                        obtain ⟨_, p0, p1, p2, p3, p4, _⟩ := hS3.out.to1.b5
                        obtain ⟨_, _, _, p5, p6, _⟩ := hS3.out.to2.b4
                        go_wp2_with fail
                        refine (HB.out _).mono ?_
                        rintro e w2 ⟨rfl, b2⟩
                        replace hS3 := Lib.hid (hS3.out.below b2)
                        clear b2 q0 q1 q2 q3 q4 p0 p1 p2 p3 p4 p5 p6
                        obtain ⟨_, q0, q1, q2, q3, q4, _⟩ := hS3.out.b5
                        obtain ⟨_, p0, p1, p2, p3, p4, _⟩ := hS3.out.to1.b5
                        obtain ⟨_, _, _, p5, p6, _⟩ := hS3.out.to2.b4
                        go_wp2_with fail
                        go_ret
                        exact ⟨by rw [← hck.out, E.out]; rfl, hS3.out.tail.tail.tail.gold⟩
                      | false =>
                        have E := Lib.hid (hF.out (by simp only [pairB, h1, h2, hw, h4, h5, h6]; first | rfl | (simp; done)))
                        clear hT hF
                        go_wp2_with fail
                        refine (HW.out _).mono ?_
                        rintro e w2 ⟨rfl, b2⟩
                        replace hS3 := Lib.hid (hS3.out.below b2)
                        clear b2 q0 q1 q2 q3 q4 p0 p1 p2 p3 p4 p5 p6
                        obtain ⟨_, q0, q1, q2, q3, q4, _⟩ := hS3.out.b5
                        obtain ⟨_, p0, p1, p2, p3, p4, _⟩ := hS3.out.to1.b5
                        obtain ⟨_, _, _, p5, p6, _⟩ := hS3.out.to2.b4
                        go_wp2_with fail
                        refine (HA.out _).mono ?_
                        rintro e w2 ⟨rfl, b2⟩
                        replace hS3 := Lib.hid (hS3.out.below b2)
                        clear b2 q0 q1 q2 q3 q4 p0 p1 p2 p3 p4 p5 p6
                        obtain ⟨_, q0, q1, q2, q3, q4, _⟩ := hS3.out.b5
                        obtain ⟨_, p0, p1, p2, p3, p4, _⟩ := hS3.out.to1.b5
                        obtain ⟨_, _, _, p5, p6, _⟩ := hS3.out.to2.b4
                        go_wp2_with fail
                        refine (HB.out _).mono ?_
                        rintro e w2 ⟨rfl, b2⟩
                        replace hS3 := Lib.hid (hS3.out.below b2)
                        clear b2 q0 q1 q2 q3 q4 p0 p1 p2 p3 p4 p5 p6
                        obtain ⟨_, q0, q1, q2, q3, q4, _⟩ := hS3.out.b5
                        obtain ⟨_, p0, p1, p2, p3, p4, _⟩ := hS3.out.to1.b5
                        obtain ⟨_, _, _, p5, p6, _⟩ := hS3.out.to2.b4
                        go_wp2_with fail
                        refine (HA.out _).mono ?_
                        rintro e w2 ⟨rfl, b2⟩
                        replace hS3 := Lib.hid (hS3.out.below b2)
                        clear b2 q0 q1 q2 q3 q4 p0 p1 p2 p3 p4 p5 p6
                        obtain ⟨_, q0, q1, q2, q3, q4, _⟩ := hS3.out.b5
                        obtain ⟨_, p0, p1, p2, p3, p4, _⟩ := hS3.out.to1.b5
                        obtain ⟨_, _, _, p5, p6, _⟩ := hS3.out.to2.b4
                        go_wp2_with fail
                        go_roundg (i - (j + 1))
                        case measure => omega
                        case rel => exact ⟨j + 1, by omega, rfl, by go_num, E, hS3.out.tail⟩
          · have hj2 : j = i := by omega
            have hokT := Lib.hid (show okQB n l i = true by rw [hok.out, ← hj2, hAny.out]; rfl)
            go_wp2_with fail
            go_roundg (m - (i + 1))
            case measure => omega
            case rel => exact ⟨i + 1, by omega, rfl, by go_num, (fun y hy => by by_cases hyi : y = i; · rw [hyi]; exact hokT.out
                                                                                · exact hA.out y (by omega)), hS2.out.tail⟩
    · have hk2 : i = m := by omega
      have E := Lib.hid (checkB_good n l (by have := hN.out.1; omega) (by have := hN.out.2; omega) (fun j hj => hA.out j (by rw [hn.out] at hj; omega)))
      go_wp2_with fail
      go_ret
      exact ⟨by rw [← hck.out, E.out]; rfl, hS.out.to1.gold⟩
end Go.Proofs.YtcnkmhfcgkbhbaaGreat
