/-
  Contracts and plain laws that the walk leans on, part 10. No condition.
-/
import Derived.Test.YthbamhfnemdebaaGreatZVc9
namespace Go.Proofs.YthbamhfnemdebaaGreat
open Go.RowKit
/-- Do two requests, the first ahead of the second, not go together? -/
def pairB (a b : Rq) : Bool := ((a.id == b.id || a.txn == b.txn) || (decide (0 < a.since) && a.since == b.since)) || (!(a.mode != 0) && (b.mode != 0 || decide (b.since < a.since))) || ((a.mode != 0 && b.mode != 0) && !comB a.mode b.mode)
def okQB (n : Int) (l : List Rq) (i : Nat) : Bool := rightB (l.getD i default) n && !((l.take i).any fun a => pairB a (l.getD i default))
def checkB (n : Int) (l : List Rq) : Bool := decide (0 ≤ n) && (decide (n ≤ 4611686018427387904) && (List.range l.length).all (okQB n l))
theorem checkB_bad (n : Int) (l : List Rq) (i : Nat) (hi : i < l.length) (h : okQB n l i = false) : checkB n l = false := by
  have : (List.range l.length).all (okQB n l) = false := by
    rw [List.all_eq_false]
    exact ⟨i, List.mem_range.2 hi, by simp [h]⟩
  simp [checkB, this]
theorem checkB_good (n : Int) (l : List Rq) (h0 : ¬ n < 0) (h1 : ¬ 4611686018427387904 < n) (h : ∀ i, i < l.length → okQB n l i = true) : checkB n l = true := by
  have : (List.range l.length).all (okQB n l) = true := by
    rw [List.all_eq_true]
    exact fun i hi => h i (List.mem_range.1 hi)
  simp [checkB, this]; omega
theorem any_take_succ {α : Type} [Inhabited α] (p : α → Bool) (l : List α) (k : Nat) (hk : k < l.length) : (l.take (k + 1)).any p = ((l.take k).any p || p (l.getD k default)) := by
  rw [List.take_add_one, List.any_append]
  simp [List.getD, hk]
theorem any_take_true {α : Type} [Inhabited α] (p : α → Bool) (l : List α) (k i : Nat) (hk : k < l.length) (hki : k < i) (h : p (l.getD k default) = true) : (l.take i).any p = true := by
  rw [List.any_eq_true]
  refine ⟨l.getD k default, ?_, h⟩
  rw [List.mem_iff_getElem]
  exact ⟨k, by rw [List.length_take]; omega, by simp [List.getD, hk]⟩
set_option maxHeartbeats 4000000 in
set_option maxRecDepth 100000 in
theorem checkR_any (t r n : Int) (v : Value) (l : List Rq) (w : World) (hv : RQ w v l) (hl : l.length ≤ 1000) :
    Calls Tryz.prog 15 #[hval t r v n] w fun e w' => e = .returned (.int .i64 (if checkB n l then 0 else 2)) ∧ Below w.heap.size w w' := by
  have h0 : ∀ b0, Sep (w.alloc (.cells b0 43)) [blk w.heap.size 43 b0, old w] := fun b0 => (Sep.start w).alloc b0 43
  have HU := Lib.hid (fun q w => holdsR_any q w)
  have HV := Lib.hid (fun q w => waitsR_any q w)
  have HR := Lib.hid (fun q w => rightR_any q n w)
  have HC := Lib.hid (fun x y w => compatR_any x y w)
  replace h0 := Lib.hid h0
  obtain ⟨a, c, rfl, hlc, _, hr⟩ := hv
  replace hr := Lib.hid hr
  unfold hval
  have hS := Lib.hid (h0.out #[.int .i64 t, .int .i64 r, .slice a l.length c, .int .i64 n])
  clear h0
  by_cases hn0 : n < 0
  · have d0 : decide (n < 0) = true := decide_eq_true hn0
    rw [show checkB n l = false by simp [checkB]; omega]
    clear hn0
    go_enter Tryz.func15, Tryz.ntmps15
    go_wp2_with fail
    go_ret
    exact ⟨rfl, hS.out.to1.gold⟩
  have d0 : decide (n < 0) = false := decide_eq_false hn0
  by_cases hn1 : 4611686018427387904 < n
  · have d1 : decide (4611686018427387904 < n) = true := decide_eq_true hn1
    rw [show checkB n l = false by simp [checkB]; omega]
    clear hn0 hn1
    go_enter Tryz.func15, Tryz.ntmps15
    go_wp2_with fail
    go_ret
    exact ⟨rfl, hS.out.to1.gold⟩
  have d1 : decide (4611686018427387904 < n) = false := decide_eq_false hn1
  have hN := Lib.hid (And.intro hn0 hn1)
  clear hn0 hn1
  generalize hck : (if checkB n l = true then (0 : Int) else 2) = ck
  replace hck := Lib.hid hck
  go_enter Tryz.func15, Tryz.ntmps15
  go_wp2_with fail
  clear d0 d1
  generalize hn : l.length = m at *
  replace hn := Lib.hid hn
  go_loopg [3] m (fun g i wr => ∃ k : Nat, k ≤ m ∧ g = m - k ∧ i = .int .i64 k ∧ Hid (∀ j, j < k → okQB n l j = true) ∧ Hid (Sep wr [blk w.heap.size 43 #[.int .i64 t, .int .i64 r, .slice a m c, .int .i64 n], old w]))
  case atStart => exact ⟨0, Nat.zero_le _, rfl, rfl, (fun j hj => absurd hj (Nat.not_lt_zero j)), hS⟩
  case round =>
    clear hS
    obtain ⟨i, hi, hg, rfl, hA, hS⟩ := hrel
    obtain ⟨x1, _, _, x2, x3, _⟩ := hS.out.b4
    by_cases hlt : i < m
    · obtain ⟨b, off, rfl, hbl, hz⟩ := hr.out (by have := hn.out; omega)
      obtain ⟨z0, z1, z2, z3, z4⟩ := hz i (by have := hn.out; omega)
      have kk : ∀ o, wr.cell? ⟨b, o, none⟩ = w.cell? ⟨b, o, none⟩ := fun o => hS.out.to1.gold.cell (p := ⟨b, o, none⟩) hbl
      rw [← kk] at z0 z1 z2 z3 z4
      have hok := Lib.hid (show okQB n l i = (rightB (l.getD i default) n && !((l.take i).any fun a => pairB a (l.getD i default))) from rfl)
      have hzz := Lib.hid hz
      have hbb := Lib.hid hbl
      clear kk hz hbl
      generalize l.getD i default = q at *
      have HQ := Lib.hid (fun w => HR.out q w)
      have HB := Lib.hid (fun w => HU.out q w)
      have hS2 := Lib.hid (hS.out.alloc q.cells.toArray 58)
      obtain ⟨id, txn, mode, want, since⟩ := q
      simp only [Rq.val] at HQ HB
      simp only [Rq.cells] at hS2
      obtain ⟨_, p0, p1, p2, p3, p4, _⟩ := hS2.out.b5
      obtain ⟨_, _, _, p5, p6, _⟩ := hS2.out.to1.b4
      cases hrb : rightB ⟨id, txn, mode, want, since⟩ n with
      | false =>
        rw [hrb] at HQ
        have E := Lib.hid (checkB_bad n l i (by rw [hn.out]; exact hlt) (by rw [hok.out, hrb]; rfl))
        go_wp2_with fail
        refine (HQ.out _).mono ?_
        rintro e w1 ⟨rfl, b1⟩
        replace hS2 := Lib.hid (hS2.out.below b1)
        clear b1 p0 p1 p2 p3 p4 p5 p6 x1 x2 x3 z0 z1 z2 z3 z4
        go_wp2_with fail
        go_ret
        exact ⟨by rw [← hck.out, E.out]; rfl, hS2.out.tail.tail.gold⟩
      | true =>
        rw [hrb] at HQ
        rw [hrb] at hok
        have hgb := Lib.hid (rfl : wr.heap.size = wr.heap.size)
        go_wp2_with fail
        refine (HQ.out _).mono ?_
        rintro e w1 ⟨rfl, b1⟩
        replace hS2 := Lib.hid (hS2.out.below b1)
        clear b1 p0 p1 p2 p3 p4 p5 p6 x1 x2 x3 z0 z1 z2 z3 z4 HQ hgb hS
        generalize wr.heap.size = gb at *
        go_wp2_with fail
        go_loopg [5] i (fun g k wr => ∃ j : Nat, j ≤ i ∧ g = i - j ∧ k = .int .i64 j ∧ Hid ((l.take j).any (fun a => pairB a ⟨id, txn, mode, want, since⟩) = false) ∧ Hid (Sep wr [blk gb 58 #[.int .i64 id, .int .i64 txn, .int .i64 mode, .int .i64 want, .int .i64 since], blk w.heap.size 43 #[.int .i64 t, .int .i64 r, .slice (some ⟨b, off, none⟩) m c, .int .i64 n], old w]))
        case atStart => exact ⟨0, Nat.zero_le _, rfl, rfl, (show (List.any [] _ = false) from rfl), hS2⟩
        case round =>
          clear hS2
          obtain ⟨j, hj, hg2, rfl, hAny, hS2⟩ := hrel
          obtain ⟨_, p0, p1, p2, p3, p4, _⟩ := hS2.out.b5
          obtain ⟨_, _, _, p5, p6, _⟩ := hS2.out.to1.b4
          by_cases hlt2 : j < i
          · obtain ⟨z0, z1, z2, z3, z4⟩ := hzz.out j (by have := hn.out; omega)
            have kk : ∀ o, wr.cell? ⟨b, o, none⟩ = w.cell? ⟨b, o, none⟩ := fun o => hS2.out.tail.tail.gold.cell (p := ⟨b, o, none⟩) hbb.out
            rw [← kk] at z0 z1 z2 z3 z4
            clear kk
            have hT := Lib.hid (fun h : pairB (l.getD j default) ⟨id, txn, mode, want, since⟩ = true => checkB_bad n l i (by rw [hn.out]; exact hlt) (by rw [hok.out, any_take_true (fun a => pairB a ⟨id, txn, mode, want, since⟩) l j i (by rw [hn.out]; omega) hlt2 h]; rfl))
            have hF := Lib.hid (fun h : pairB (l.getD j default) ⟨id, txn, mode, want, since⟩ = false => show (l.take (j + 1)).any (fun a => pairB a ⟨id, txn, mode, want, since⟩) = false by rw [any_take_succ _ l j (by rw [hn.out]; omega), hAny.out, h]; rfl)
            generalize l.getD j default = q at *
            have HA := Lib.hid (fun w => HU.out q w)
            have HW := Lib.hid (fun w => HV.out q w)
            have HP := Lib.hid (fun w => HC.out q.mode mode w)
            have hS3 := Lib.hid (hS2.out.alloc q.cells.toArray 58)
            obtain ⟨id2, txn2, mode2, want2, since2⟩ := q
            simp only [Rq.val] at HA HW HP
            simp only [Rq.cells] at hS3
            obtain ⟨_, q0, q1, q2, q3, q4, _⟩ := hS3.out.b5
            obtain ⟨_, p0, p1, p2, p3, p4, _⟩ := hS3.out.to1.b5
            obtain ⟨_, _, _, p5, p6, _⟩ := hS3.out.to2.b4
            clear hS2
            cases h1 : id2 == id with
            | true =>
              have E := Lib.hid (hT.out (by simp only [pairB, h1]; first | rfl | (simp; done)))
              clear hT hF
              go_wp2_with fail
              go_ret
              exact ⟨by rw [← hck.out, E.out]; rfl, hS3.out.tail.tail.tail.gold⟩
            | false =>
              cases h2 : txn2 == txn with
              | true =>
                have E := Lib.hid (hT.out (by simp only [pairB, h1, h2]; first | rfl | (simp; done)))
                clear hT hF
                go_wp2_with fail
                go_ret
                exact ⟨by rw [← hck.out, E.out]; rfl, hS3.out.tail.tail.tail.gold⟩
              | false =>
                cases hw : decide (0 < since2) with
                | true =>
                  rw [hw] at HW
                  cases h3 : since2 == since with
                  | true =>
                    have E := Lib.hid (hT.out (by simp only [pairB, h1, h2, hw, h3]; first | rfl | (simp; done)))
                    clear hT hF
                    go_wp2_with fail
                    refine (HW.out _).mono ?_
                    rintro e w2 ⟨rfl, b2⟩
                    replace hS3 := Lib.hid (hS3.out.below b2)
                    clear b2 q0 q1 q2 q3 q4 p0 p1 p2 p3 p4 p5 p6
                    obtain ⟨_, q0, q1, q2, q3, q4, _⟩ := hS3.out.b5
                    obtain ⟨_, p0, p1, p2, p3, p4, _⟩ := hS3.out.to1.b5
                    obtain ⟨_, _, _, p5, p6, _⟩ := hS3.out.to2.b4
                    go_wp2_with fail
                    go_ret
                    exact ⟨by rw [← hck.out, E.out]; rfl, hS3.out.tail.tail.tail.gold⟩
                  | false =>
                    cases h4 : mode2 != 0 with
                    | true =>
                      rw [h4] at HA
                      cases h5 : mode != 0 with
                      | true =>
                        rw [h5] at HB
                        cases h6 : comB mode2 mode with
                        | true =>
                          rw [h6] at HP
                          have E := Lib.hid (hF.out (by simp only [pairB, h1, h2, hw, h3, h4, h5, h6]; first | rfl | (simp; done)))
                          clear hT hF
                          go_wp2_with fail
                          refine (HW.out _).mono ?_
                          rintro e w2 ⟨rfl, b2⟩
                          replace hS3 := Lib.hid (hS3.out.below b2)
                          clear b2 q0 q1 q2 q3 q4 p0 p1 p2 p3 p4 p5 p6
                          obtain ⟨_, q0, q1, q2, q3, q4, _⟩ := hS3.out.b5
                          obtain ⟨_, p0, p1, p2, p3, p4, _⟩ := hS3.out.to1.b5
                          obtain ⟨_, _, _, p5, p6, _⟩ := hS3.out.to2.b4
                          go_wp2_with fail
                          refine (HA.out _).mono ?_
                          rintro e w2 ⟨rfl, b2⟩
                          replace hS3 := Lib.hid (hS3.out.below b2)
                          clear b2 q0 q1 q2 q3 q4 p0 p1 p2 p3 p4 p5 p6
                          obtain ⟨_, q0, q1, q2, q3, q4, _⟩ := hS3.out.b5
                          obtain ⟨_, p0, p1, p2, p3, p4, _⟩ := hS3.out.to1.b5
                          obtain ⟨_, _, _, p5, p6, _⟩ := hS3.out.to2.b4
                          go_wp2_with fail
                          refine (HA.out _).mono ?_
                          rintro e w2 ⟨rfl, b2⟩
                          replace hS3 := Lib.hid (hS3.out.below b2)
                          clear b2 q0 q1 q2 q3 q4 p0 p1 p2 p3 p4 p5 p6
                          obtain ⟨_, q0, q1, q2, q3, q4, _⟩ := hS3.out.b5
                          obtain ⟨_, p0, p1, p2, p3, p4, _⟩ := hS3.out.to1.b5
                          obtain ⟨_, _, _, p5, p6, _⟩ := hS3.out.to2.b4
                          go_wp2_with fail
                          refine (HB.out _).mono ?_
                          rintro e w2 ⟨rfl, b2⟩
                          replace hS3 := Lib.hid (hS3.out.below b2)
                          clear b2 q0 q1 q2 q3 q4 p0 p1 p2 p3 p4 p5 p6
                          obtain ⟨_, q0, q1, q2, q3, q4, _⟩ := hS3.out.b5
                          obtain ⟨_, p0, p1, p2, p3, p4, _⟩ := hS3.out.to1.b5
                          obtain ⟨_, _, _, p5, p6, _⟩ := hS3.out.to2.b4
                          go_wp2_with fail
                          refine (HP.out _).mono ?_
                          rintro e w2 ⟨rfl, b2⟩
                          replace hS3 := Lib.hid (hS3.out.below b2)
                          clear b2 q0 q1 q2 q3 q4 p0 p1 p2 p3 p4 p5 p6
                          obtain ⟨_, q0, q1, q2, q3, q4, _⟩ := hS3.out.b5
                          obtain ⟨_, p0, p1, p2, p3, p4, _⟩ := hS3.out.to1.b5
                          obtain ⟨_, _, _, p5, p6, _⟩ := hS3.out.to2.b4
                          go_wp2_with fail
                          go_roundg (i - (j + 1))
                          case measure => omega
                          case rel => exact ⟨j + 1, by omega, rfl, by go_num, E, hS3.out.tail⟩
                        | false =>
                          rw [h6] at HP
                          have E := Lib.hid (hT.out (by simp only [pairB, h1, h2, hw, h3, h4, h5, h6]; first | rfl | (simp; done)))
                          clear hT hF
                          go_wp2_with fail
                          refine (HW.out _).mono ?_
                          rintro e w2 ⟨rfl, b2⟩
                          replace hS3 := Lib.hid (hS3.out.below b2)
                          clear b2 q0 q1 q2 q3 q4 p0 p1 p2 p3 p4 p5 p6
                          obtain ⟨_, q0, q1, q2, q3, q4, _⟩ := hS3.out.b5
                          obtain ⟨_, p0, p1, p2, p3, p4, _⟩ := hS3.out.to1.b5
                          obtain ⟨_, _, _, p5, p6, _⟩ := hS3.out.to2.b4
                          go_wp2_with fail
                          refine (HA.out _).mono ?_
                          rintro e w2 ⟨rfl, b2⟩
                          replace hS3 := Lib.hid (hS3.out.below b2)
                          clear b2 q0 q1 q2 q3 q4 p0 p1 p2 p3 p4 p5 p6
                          obtain ⟨_, q0, q1, q2, q3, q4, _⟩ := hS3.out.b5
                          obtain ⟨_, p0, p1, p2, p3, p4, _⟩ := hS3.out.to1.b5
                          obtain ⟨_, _, _, p5, p6, _⟩ := hS3.out.to2.b4
                          go_wp2_with fail
                          refine (HA.out _).mono ?_
                          rintro e w2 ⟨rfl, b2⟩
                          replace hS3 := Lib.hid (hS3.out.below b2)
                          clear b2 q0 q1 q2 q3 q4 p0 p1 p2 p3 p4 p5 p6
                          obtain ⟨_, q0, q1, q2, q3, q4, _⟩ := hS3.out.b5
                          obtain ⟨_, p0, p1, p2, p3, p4, _⟩ := hS3.out.to1.b5
                          obtain ⟨_, _, _, p5, p6, _⟩ := hS3.out.to2.b4
                          go_wp2_with fail
                          refine (HB.out _).mono ?_
                          rintro e w2 ⟨rfl, b2⟩
                          replace hS3 := Lib.hid (hS3.out.below b2)
                          clear b2 q0 q1 q2 q3 q4 p0 p1 p2 p3 p4 p5 p6
                          obtain ⟨_, q0, q1, q2, q3, q4, _⟩ := hS3.out.b5
                          obtain ⟨_, p0, p1, p2, p3, p4, _⟩ := hS3.out.to1.b5
                          obtain ⟨_, _, _, p5, p6, _⟩ := hS3.out.to2.b4
                          go_wp2_with fail
                          refine (HP.out _).mono ?_
                          rintro e w2 ⟨rfl, b2⟩
                          replace hS3 := Lib.hid (hS3.out.below b2)
                          clear b2 q0 q1 q2 q3 q4 p0 p1 p2 p3 p4 p5 p6
                          obtain ⟨_, q0, q1, q2, q3, q4, _⟩ := hS3.out.b5
                          obtain ⟨_, p0, p1, p2, p3, p4, _⟩ := hS3.out.to1.b5
                          obtain ⟨_, _, _, p5, p6, _⟩ := hS3.out.to2.b4
                          go_wp2_with fail
                          go_ret
                          exact ⟨by rw [← hck.out, E.out]; rfl, hS3.out.tail.tail.tail.gold⟩
                      | false =>
                        rw [h5] at HB
                        have E := Lib.hid (hF.out (by simp only [pairB, h1, h2, hw, h3, h4, h5]; first | rfl | (simp; done)))
                        clear hT hF
                        go_wp2_with fail
                        refine (HW.out _).mono ?_
                        rintro e w2 ⟨rfl, b2⟩
                        replace hS3 := Lib.hid (hS3.out.below b2)
                        clear b2 q0 q1 q2 q3 q4 p0 p1 p2 p3 p4 p5 p6
                        obtain ⟨_, q0, q1, q2, q3, q4, _⟩ := hS3.out.b5
                        obtain ⟨_, p0, p1, p2, p3, p4, _⟩ := hS3.out.to1.b5
                        obtain ⟨_, _, _, p5, p6, _⟩ := hS3.out.to2.b4
                        go_wp2_with fail
                        refine (HA.out _).mono ?_
                        rintro e w2 ⟨rfl, b2⟩
                        replace hS3 := Lib.hid (hS3.out.below b2)
                        clear b2 q0 q1 q2 q3 q4 p0 p1 p2 p3 p4 p5 p6
                        obtain ⟨_, q0, q1, q2, q3, q4, _⟩ := hS3.out.b5
                        obtain ⟨_, p0, p1, p2, p3, p4, _⟩ := hS3.out.to1.b5
                        obtain ⟨_, _, _, p5, p6, _⟩ := hS3.out.to2.b4
                        go_wp2_with fail
                        refine (HA.out _).mono ?_
                        rintro e w2 ⟨rfl, b2⟩
                        replace hS3 := Lib.hid (hS3.out.below b2)
                        clear b2 q0 q1 q2 q3 q4 p0 p1 p2 p3 p4 p5 p6
                        obtain ⟨_, q0, q1, q2, q3, q4, _⟩ := hS3.out.b5
                        obtain ⟨_, p0, p1, p2, p3, p4, _⟩ := hS3.out.to1.b5
                        obtain ⟨_, _, _, p5, p6, _⟩ := hS3.out.to2.b4
                        go_wp2_with fail
                        refine (HB.out _).mono ?_
                        rintro e w2 ⟨rfl, b2⟩
                        replace hS3 := Lib.hid (hS3.out.below b2)
                        clear b2 q0 q1 q2 q3 q4 p0 p1 p2 p3 p4 p5 p6
                        obtain ⟨_, q0, q1, q2, q3, q4, _⟩ := hS3.out.b5
                        obtain ⟨_, p0, p1, p2, p3, p4, _⟩ := hS3.out.to1.b5
                        obtain ⟨_, _, _, p5, p6, _⟩ := hS3.out.to2.b4
                        go_wp2_with fail
                        go_roundg (i - (j + 1))
                        case measure => omega
                        case rel => exact ⟨j + 1, by omega, rfl, by go_num, E, hS3.out.tail⟩
                    | false =>
                      rw [h4] at HA
                      cases h5 : mode != 0 with
                      | true =>
                        rw [h5] at HB
                        have E := Lib.hid (hT.out (by simp only [pairB, h1, h2, hw, h3, h4, h5]; first | rfl | (simp; done)))
                        clear hT hF
                        go_wp2_with fail
                        refine (HW.out _).mono ?_
                        rintro e w2 ⟨rfl, b2⟩
                        replace hS3 := Lib.hid (hS3.out.below b2)
                        clear b2 q0 q1 q2 q3 q4 p0 p1 p2 p3 p4 p5 p6
                        obtain ⟨_, q0, q1, q2, q3, q4, _⟩ := hS3.out.b5
                        obtain ⟨_, p0, p1, p2, p3, p4, _⟩ := hS3.out.to1.b5
                        obtain ⟨_, _, _, p5, p6, _⟩ := hS3.out.to2.b4
                        go_wp2_with fail
                        refine (HA.out _).mono ?_
                        rintro e w2 ⟨rfl, b2⟩
                        replace hS3 := Lib.hid (hS3.out.below b2)
                        clear b2 q0 q1 q2 q3 q4 p0 p1 p2 p3 p4 p5 p6
                        obtain ⟨_, q0, q1, q2, q3, q4, _⟩ := hS3.out.b5
                        obtain ⟨_, p0, p1, p2, p3, p4, _⟩ := hS3.out.to1.b5
                        obtain ⟨_, _, _, p5, p6, _⟩ := hS3.out.to2.b4
                        go_wp2_with fail
                        refine (HB.out _).mono ?_
                        rintro e w2 ⟨rfl, b2⟩
                        replace hS3 := Lib.hid (hS3.out.below b2)
                        clear b2 q0 q1 q2 q3 q4 p0 p1 p2 p3 p4 p5 p6
                        obtain ⟨_, q0, q1, q2, q3, q4, _⟩ := hS3.out.b5
                        obtain ⟨_, p0, p1, p2, p3, p4, _⟩ := hS3.out.to1.b5
                        obtain ⟨_, _, _, p5, p6, _⟩ := hS3.out.to2.b4
                        go_wp2_with fail
                        go_ret
                        exact ⟨by rw [← hck.out, E.out]; rfl, hS3.out.tail.tail.tail.gold⟩
                      | false =>
                        rw [h5] at HB
                        cases h6 : decide (since < since2) with
                        | true =>
                          have E := Lib.hid (hT.out (by simp only [pairB, h1, h2, hw, h3, h4, h5, h6]; first | rfl | (simp; done)))
                          clear hT hF
                          go_wp2_with fail
                          refine (HW.out _).mono ?_
                          rintro e w2 ⟨rfl, b2⟩
                          replace hS3 := Lib.hid (hS3.out.below b2)
                          clear b2 q0 q1 q2 q3 q4 p0 p1 p2 p3 p4 p5 p6
                          obtain ⟨_, q0, q1, q2, q3, q4, _⟩ := hS3.out.b5
                          obtain ⟨_, p0, p1, p2, p3, p4, _⟩ := hS3.out.to1.b5
                          obtain ⟨_, _, _, p5, p6, _⟩ := hS3.out.to2.b4
                          go_wp2_with fail
                          refine (HA.out _).mono ?_
                          rintro e w2 ⟨rfl, b2⟩
                          replace hS3 := Lib.hid (hS3.out.below b2)
                          clear b2 q0 q1 q2 q3 q4 p0 p1 p2 p3 p4 p5 p6
                          obtain ⟨_, q0, q1, q2, q3, q4, _⟩ := hS3.out.b5
                          obtain ⟨_, p0, p1, p2, p3, p4, _⟩ := hS3.out.to1.b5
                          obtain ⟨_, _, _, p5, p6, _⟩ := hS3.out.to2.b4
                          go_wp2_with fail
                          refine (HB.out _).mono ?_
                          rintro e w2 ⟨rfl, b2⟩
                          replace hS3 := Lib.hid (hS3.out.below b2)
                          clear b2 q0 q1 q2 q3 q4 p0 p1 p2 p3 p4 p5 p6
                          obtain ⟨_, q0, q1, q2, q3, q4, _⟩ := hS3.out.b5
                          obtain ⟨_, p0, p1, p2, p3, p4, _⟩ := hS3.out.to1.b5
                          obtain ⟨_, _, _, p5, p6, _⟩ := hS3.out.to2.b4
                          go_wp2_with fail
                          go_ret
                          exact ⟨by rw [← hck.out, E.out]; rfl, hS3.out.tail.tail.tail.gold⟩
                        | false =>
                          have E := Lib.hid (hF.out (by simp only [pairB, h1, h2, hw, h3, h4, h5, h6]; first | rfl | (simp; done)))
                          clear hT hF
                          go_wp2_with fail
                          refine (HW.out _).mono ?_
                          rintro e w2 ⟨rfl, b2⟩
                          replace hS3 := Lib.hid (hS3.out.below b2)
                          clear b2 q0 q1 q2 q3 q4 p0 p1 p2 p3 p4 p5 p6
                          obtain ⟨_, q0, q1, q2, q3, q4, _⟩ := hS3.out.b5
                          obtain ⟨_, p0, p1, p2, p3, p4, _⟩ := hS3.out.to1.b5
                          obtain ⟨_, _, _, p5, p6, _⟩ := hS3.out.to2.b4
                          go_wp2_with fail
                          refine (HA.out _).mono ?_
                          rintro e w2 ⟨rfl, b2⟩
                          replace hS3 := Lib.hid (hS3.out.below b2)
                          clear b2 q0 q1 q2 q3 q4 p0 p1 p2 p3 p4 p5 p6
                          obtain ⟨_, q0, q1, q2, q3, q4, _⟩ := hS3.out.b5
                          obtain ⟨_, p0, p1, p2, p3, p4, _⟩ := hS3.out.to1.b5
                          obtain ⟨_, _, _, p5, p6, _⟩ := hS3.out.to2.b4
                          go_wp2_with fail
                          refine (HB.out _).mono ?_
                          rintro e w2 ⟨rfl, b2⟩
                          replace hS3 := Lib.hid (hS3.out.below b2)
                          clear b2 q0 q1 q2 q3 q4 p0 p1 p2 p3 p4 p5 p6
                          obtain ⟨_, q0, q1, q2, q3, q4, _⟩ := hS3.out.b5
                          obtain ⟨_, p0, p1, p2, p3, p4, _⟩ := hS3.out.to1.b5
                          obtain ⟨_, _, _, p5, p6, _⟩ := hS3.out.to2.b4
                          go_wp2_with fail
                          refine (HA.out _).mono ?_
                          rintro e w2 ⟨rfl, b2⟩
                          replace hS3 := Lib.hid (hS3.out.below b2)
                          clear b2 q0 q1 q2 q3 q4 p0 p1 p2 p3 p4 p5 p6
                          obtain ⟨_, q0, q1, q2, q3, q4, _⟩ := hS3.out.b5
                          obtain ⟨_, p0, p1, p2, p3, p4, _⟩ := hS3.out.to1.b5
                          obtain ⟨_, _, _, p5, p6, _⟩ := hS3.out.to2.b4
                          go_wp2_with fail
                          go_roundg (i - (j + 1))
                          case measure => omega
                          case rel => exact ⟨j + 1, by omega, rfl, by go_num, E, hS3.out.tail⟩
                | false =>
                  rw [hw] at HW
                  cases h4 : mode2 != 0 with
                  | true =>
                    rw [h4] at HA
                    cases h5 : mode != 0 with
                    | true =>
                      rw [h5] at HB
                      cases h6 : comB mode2 mode with
                      | true =>
                        rw [h6] at HP
                        have E := Lib.hid (hF.out (by simp only [pairB, h1, h2, hw, h4, h5, h6]; first | rfl | (simp; done)))
                        clear hT hF
                        go_wp2_with fail
                        refine (HW.out _).mono ?_
                        rintro e w2 ⟨rfl, b2⟩
                        replace hS3 := Lib.hid (hS3.out.below b2)
                        clear b2 q0 q1 q2 q3 q4 p0 p1 p2 p3 p4 p5 p6
                        obtain ⟨_, q0, q1, q2, q3, q4, _⟩ := hS3.out.b5
                        obtain ⟨_, p0, p1, p2, p3, p4, _⟩ := hS3.out.to1.b5
                        obtain ⟨_, _, _, p5, p6, _⟩ := hS3.out.to2.b4
                        go_wp2_with fail
                        refine (HA.out _).mono ?_
                        rintro e w2 ⟨rfl, b2⟩
                        replace hS3 := Lib.hid (hS3.out.below b2)
                        clear b2 q0 q1 q2 q3 q4 p0 p1 p2 p3 p4 p5 p6
                        obtain ⟨_, q0, q1, q2, q3, q4, _⟩ := hS3.out.b5
                        obtain ⟨_, p0, p1, p2, p3, p4, _⟩ := hS3.out.to1.b5
                        obtain ⟨_, _, _, p5, p6, _⟩ := hS3.out.to2.b4
                        go_wp2_with fail
                        refine (HA.out _).mono ?_
                        rintro e w2 ⟨rfl, b2⟩
                        replace hS3 := Lib.hid (hS3.out.below b2)
                        clear b2 q0 q1 q2 q3 q4 p0 p1 p2 p3 p4 p5 p6
                        obtain ⟨_, q0, q1, q2, q3, q4, _⟩ := hS3.out.b5
                        obtain ⟨_, p0, p1, p2, p3, p4, _⟩ := hS3.out.to1.b5
                        obtain ⟨_, _, _, p5, p6, _⟩ := hS3.out.to2.b4
                        go_wp2_with fail
                        refine (HB.out _).mono ?_
                        rintro e w2 ⟨rfl, b2⟩
                        replace hS3 := Lib.hid (hS3.out.below b2)
                        clear b2 q0 q1 q2 q3 q4 p0 p1 p2 p3 p4 p5 p6
                        obtain ⟨_, q0, q1, q2, q3, q4, _⟩ := hS3.out.b5
                        obtain ⟨_, p0, p1, p2, p3, p4, _⟩ := hS3.out.to1.b5
                        obtain ⟨_, _, _, p5, p6, _⟩ := hS3.out.to2.b4
                        go_wp2_with fail
                        refine (HP.out _).mono ?_
                        rintro e w2 ⟨rfl, b2⟩
                        replace hS3 := Lib.hid (hS3.out.below b2)
                        clear b2 q0 q1 q2 q3 q4 p0 p1 p2 p3 p4 p5 p6
                        obtain ⟨_, q0, q1, q2, q3, q4, _⟩ := hS3.out.b5
                        obtain ⟨_, p0, p1, p2, p3, p4, _⟩ := hS3.out.to1.b5
                        obtain ⟨_, _, _, p5, p6, _⟩ := hS3.out.to2.b4
                        go_wp2_with fail
                        go_roundg (i - (j + 1))
                        case measure => omega
                        case rel => exact ⟨j + 1, by omega, rfl, by go_num, E, hS3.out.tail⟩
                      | false =>
                        rw [h6] at HP
                        have E := Lib.hid (hT.out (by simp only [pairB, h1, h2, hw, h4, h5, h6]; first | rfl | (simp; done)))
                        clear hT hF
                        go_wp2_with fail
                        refine (HW.out _).mono ?_
                        rintro e w2 ⟨rfl, b2⟩
                        replace hS3 := Lib.hid (hS3.out.below b2)
                        clear b2 q0 q1 q2 q3 q4 p0 p1 p2 p3 p4 p5 p6
                        obtain ⟨_, q0, q1, q2, q3, q4, _⟩ := hS3.out.b5
                        obtain ⟨_, p0, p1, p2, p3, p4, _⟩ := hS3.out.to1.b5
                        obtain ⟨_, _, _, p5, p6, _⟩ := hS3.out.to2.b4
                        go_wp2_with fail
                        refine (HA.out _).mono ?_
                        rintro e w2 ⟨rfl, b2⟩
                        replace hS3 := Lib.hid (hS3.out.below b2)
                        clear b2 q0 q1 q2 q3 q4 p0 p1 p2 p3 p4 p5 p6
                        obtain ⟨_, q0, q1, q2, q3, q4, _⟩ := hS3.out.b5
                        obtain ⟨_, p0, p1, p2, p3, p4, _⟩ := hS3.out.to1.b5
                        obtain ⟨_, _, _, p5, p6, _⟩ := hS3.out.to2.b4
                        go_wp2_with fail
                        refine (HA.out _).mono ?_
                        rintro e w2 ⟨rfl, b2⟩
                        replace hS3 := Lib.hid (hS3.out.below b2)
                        clear b2 q0 q1 q2 q3 q4 p0 p1 p2 p3 p4 p5 p6
                        obtain ⟨_, q0, q1, q2, q3, q4, _⟩ := hS3.out.b5
                        obtain ⟨_, p0, p1, p2, p3, p4, _⟩ := hS3.out.to1.b5
                        obtain ⟨_, _, _, p5, p6, _⟩ := hS3.out.to2.b4
                        go_wp2_with fail
                        refine (HB.out _).mono ?_
                        rintro e w2 ⟨rfl, b2⟩
                        replace hS3 := Lib.hid (hS3.out.below b2)
                        clear b2 q0 q1 q2 q3 q4 p0 p1 p2 p3 p4 p5 p6
                        obtain ⟨_, q0, q1, q2, q3, q4, _⟩ := hS3.out.b5
                        obtain ⟨_, p0, p1, p2, p3, p4, _⟩ := hS3.out.to1.b5
                        obtain ⟨_, _, _, p5, p6, _⟩ := hS3.out.to2.b4
                        go_wp2_with fail
                        refine (HP.out _).mono ?_
                        rintro e w2 ⟨rfl, b2⟩
                        replace hS3 := Lib.hid (hS3.out.below b2)
                        clear b2 q0 q1 q2 q3 q4 p0 p1 p2 p3 p4 p5 p6
                        obtain ⟨_, q0, q1, q2, q3, q4, _⟩ := hS3.out.b5
                        obtain ⟨_, p0, p1, p2, p3, p4, _⟩ := hS3.out.to1.b5
                        obtain ⟨_, _, _, p5, p6, _⟩ := hS3.out.to2.b4
                        go_wp2_with fail
                        go_ret
                        exact ⟨by rw [← hck.out, E.out]; rfl, hS3.out.tail.tail.tail.gold⟩
                    | false =>
                      rw [h5] at HB
                      have E := Lib.hid (hF.out (by simp only [pairB, h1, h2, hw, h4, h5]; first | rfl | (simp; done)))
                      clear hT hF
                      go_wp2_with fail
                      refine (HW.out _).mono ?_
                      rintro e w2 ⟨rfl, b2⟩
                      replace hS3 := Lib.hid (hS3.out.below b2)
                      clear b2 q0 q1 q2 q3 q4 p0 p1 p2 p3 p4 p5 p6
                      obtain ⟨_, q0, q1, q2, q3, q4, _⟩ := hS3.out.b5
                      obtain ⟨_, p0, p1, p2, p3, p4, _⟩ := hS3.out.to1.b5
                      obtain ⟨_, _, _, p5, p6, _⟩ := hS3.out.to2.b4
                      go_wp2_with fail
                      refine (HA.out _).mono ?_
                      rintro e w2 ⟨rfl, b2⟩
                      replace hS3 := Lib.hid (hS3.out.below b2)
                      clear b2 q0 q1 q2 q3 q4 p0 p1 p2 p3 p4 p5 p6
                      obtain ⟨_, q0, q1, q2, q3, q4, _⟩ := hS3.out.b5
                      obtain ⟨_, p0, p1, p2, p3, p4, _⟩ := hS3.out.to1.b5
                      obtain ⟨_, _, _, p5, p6, _⟩ := hS3.out.to2.b4
                      go_wp2_with fail
                      refine (HA.out _).mono ?_
                      rintro e w2 ⟨rfl, b2⟩
                      replace hS3 := Lib.hid (hS3.out.below b2)
                      clear b2 q0 q1 q2 q3 q4 p0 p1 p2 p3 p4 p5 p6
                      obtain ⟨_, q0, q1, q2, q3, q4, _⟩ := hS3.out.b5
                      obtain ⟨_, p0, p1, p2, p3, p4, _⟩ := hS3.out.to1.b5
                      obtain ⟨_, _, _, p5, p6, _⟩ := hS3.out.to2.b4
                      go_wp2_with fail
                      refine (HB.out _).mono ?_
                      rintro e w2 ⟨rfl, b2⟩
                      replace hS3 := Lib.hid (hS3.out.below b2)
                      clear b2 q0 q1 q2 q3 q4 p0 p1 p2 p3 p4 p5 p6
                      obtain ⟨_, q0, q1, q2, q3, q4, _⟩ := hS3.out.b5
                      obtain ⟨_, p0, p1, p2, p3, p4, _⟩ := hS3.out.to1.b5
                      obtain ⟨_, _, _, p5, p6, _⟩ := hS3.out.to2.b4
                      go_wp2_with fail
                      go_roundg (i - (j + 1))
                      case measure => omega
                      case rel => exact ⟨j + 1, by omega, rfl, by go_num, E, hS3.out.tail⟩
                  | false =>
                    rw [h4] at HA
                    cases h5 : mode != 0 with
                    | true =>
                      rw [h5] at HB
                      have E := Lib.hid (hT.out (by simp only [pairB, h1, h2, hw, h4, h5]; first | rfl | (simp; done)))
                      clear hT hF
                      go_wp2_with fail
                      refine (HW.out _).mono ?_
                      rintro e w2 ⟨rfl, b2⟩
                      replace hS3 := Lib.hid (hS3.out.below b2)
                      clear b2 q0 q1 q2 q3 q4 p0 p1 p2 p3 p4 p5 p6
                      obtain ⟨_, q0, q1, q2, q3, q4, _⟩ := hS3.out.b5
                      obtain ⟨_, p0, p1, p2, p3, p4, _⟩ := hS3.out.to1.b5
                      obtain ⟨_, _, _, p5, p6, _⟩ := hS3.out.to2.b4
                      go_wp2_with fail
                      refine (HA.out _).mono ?_
                      rintro e w2 ⟨rfl, b2⟩
                      replace hS3 := Lib.hid (hS3.out.below b2)
                      clear b2 q0 q1 q2 q3 q4 p0 p1 p2 p3 p4 p5 p6
                      obtain ⟨_, q0, q1, q2, q3, q4, _⟩ := hS3.out.b5
                      obtain ⟨_, p0, p1, p2, p3, p4, _⟩ := hS3.out.to1.b5
                      obtain ⟨_, _, _, p5, p6, _⟩ := hS3.out.to2.b4
                      go_wp2_with fail
                      refine (HB.out _).mono ?_
                      rintro e w2 ⟨rfl, b2⟩
                      replace hS3 := Lib.hid (hS3.out.below b2)
                      clear b2 q0 q1 q2 q3 q4 p0 p1 p2 p3 p4 p5 p6
                      obtain ⟨_, q0, q1, q2, q3, q4, _⟩ := hS3.out.b5
                      obtain ⟨_, p0, p1, p2, p3, p4, _⟩ := hS3.out.to1.b5
                      obtain ⟨_, _, _, p5, p6, _⟩ := hS3.out.to2.b4
                      go_wp2_with fail
                      go_ret
                      exact ⟨by rw [← hck.out, E.out]; rfl, hS3.out.tail.tail.tail.gold⟩
                    | false =>
                      rw [h5] at HB
                      cases h6 : decide (since < since2) with
                      | true =>
                        have E := Lib.hid (hT.out (by simp only [pairB, h1, h2, hw, h4, h5, h6]; first | rfl | (simp; done)))
                        clear hT hF
                        go_wp2_with fail
                        refine (HW.out _).mono ?_
                        rintro e w2 ⟨rfl, b2⟩
                        replace hS3 := Lib.hid (hS3.out.below b2)
                        clear b2 q0 q1 q2 q3 q4 p0 p1 p2 p3 p4 p5 p6
                        obtain ⟨_, q0, q1, q2, q3, q4, _⟩ := hS3.out.b5
                        obtain ⟨_, p0, p1, p2, p3, p4, _⟩ := hS3.out.to1.b5
                        obtain ⟨_, _, _, p5, p6, _⟩ := hS3.out.to2.b4
                        go_wp2_with fail
                        refine (HA.out _).mono ?_
                        rintro e w2 ⟨rfl, b2⟩
                        replace hS3 := Lib.hid (hS3.out.below b2)
                        clear b2 q0 q1 q2 q3 q4 p0 p1 p2 p3 p4 p5 p6
                        obtain ⟨_, q0, q1, q2, q3, q4, _⟩ := hS3.out.b5
                        obtain ⟨_, p0, p1, p2, p3, p4, _⟩ := hS3.out.to1.b5
                        obtain ⟨_, _, _, p5, p6, _⟩ := hS3.out.to2.b4
                        go_wp2_with fail
                        refine (HB.out _).mono ?_
                        rintro e w2 ⟨rfl, b2⟩
                        replace hS3 := Lib.hid (hS3.out.below b2)
                        clear b2 q0 q1 q2 q3 q4 p0 p1 p2 p3 p4 p5 p6
                        obtain ⟨_, q0, q1, q2, q3, q4, _⟩ := hS3.out.b5
                        obtain ⟨_, p0, p1, p2, p3, p4, _⟩ := hS3.out.to1.b5
                        obtain ⟨_, _, _, p5, p6, _⟩ := hS3.out.to2.b4
                        go_wp2_with fail
                        go_ret
                        exact ⟨by rw [← hck.out, E.out]; rfl, hS3.out.tail.tail.tail.gold⟩
                      | false =>
                        have E := Lib.hid (hF.out (by simp only [pairB, h1, h2, hw, h4, h5, h6]; first | rfl | (simp; done)))
                        clear hT hF
                        go_wp2_with fail
                        refine (HW.out _).mono ?_
                        rintro e w2 ⟨rfl, b2⟩
                        replace hS3 := Lib.hid (hS3.out.below b2)
                        clear b2 q0 q1 q2 q3 q4 p0 p1 p2 p3 p4 p5 p6
                        obtain ⟨_, q0, q1, q2, q3, q4, _⟩ := hS3.out.b5
                        obtain ⟨_, p0, p1, p2, p3, p4, _⟩ := hS3.out.to1.b5
                        obtain ⟨_, _, _, p5, p6, _⟩ := hS3.out.to2.b4
                        go_wp2_with fail
                        refine (HA.out _).mono ?_
                        rintro e w2 ⟨rfl, b2⟩
                        replace hS3 := Lib.hid (hS3.out.below b2)
                        clear b2 q0 q1 q2 q3 q4 p0 p1 p2 p3 p4 p5 p6
                        obtain ⟨_, q0, q1, q2, q3, q4, _⟩ := hS3.out.b5
                        obtain ⟨_, p0, p1, p2, p3, p4, _⟩ := hS3.out.to1.b5
                        obtain ⟨_, _, _, p5, p6, _⟩ := hS3.out.to2.b4
                        go_wp2_with fail
                        refine (HB.out _).mono ?_
                        rintro e w2 ⟨rfl, b2⟩
                        replace hS3 := Lib.hid (hS3.out.below b2)
                        clear b2 q0 q1 q2 q3 q4 p0 p1 p2 p3 p4 p5 p6
                        obtain ⟨_, q0, q1, q2, q3, q4, _⟩ := hS3.out.b5
                        obtain ⟨_, p0, p1, p2, p3, p4, _⟩ := hS3.out.to1.b5
                        obtain ⟨_, _, _, p5, p6, _⟩ := hS3.out.to2.b4
                        go_wp2_with fail
                        refine (HA.out _).mono ?_
                        rintro e w2 ⟨rfl, b2⟩
                        replace hS3 := Lib.hid (hS3.out.below b2)
                        clear b2 q0 q1 q2 q3 q4 p0 p1 p2 p3 p4 p5 p6
                        obtain ⟨_, q0, q1, q2, q3, q4, _⟩ := hS3.out.b5
                        obtain ⟨_, p0, p1, p2, p3, p4, _⟩ := hS3.out.to1.b5
                        obtain ⟨_, _, _, p5, p6, _⟩ := hS3.out.to2.b4
                        go_wp2_with fail
                        go_roundg (i - (j + 1))
                        case measure => omega
                        case rel => exact ⟨j + 1, by omega, rfl, by go_num, E, hS3.out.tail⟩
          · have hj2 : j = i := by omega
            have hokT := Lib.hid (show okQB n l i = true by rw [hok.out, ← hj2, hAny.out]; rfl)
            go_wp2_with fail
            go_roundg (m - (i + 1))
            case measure => omega
            case rel => exact ⟨i + 1, by omega, rfl, by go_num, (fun y hy => by by_cases hyi : y = i; · rw [hyi]; exact hokT.out
                                                                                · exact hA.out y (by omega)), hS2.out.tail⟩
    · have hk2 : i = m := by omega
      have E := Lib.hid (checkB_good n l (by have := hN.out.1; omega) (by have := hN.out.2; omega) (fun j hj => hA.out j (by rw [hn.out] at hj; omega)))
      go_wp2_with fail
      go_ret
      exact ⟨by rw [← hck.out, E.out]; rfl, hS.out.to1.gold⟩
end Go.Proofs.YthbamhfnemdebaaGreat
namespace Go.Proofs.YthbamhfnemdebaaGreat
open Go.RowKit
theorem checkB_ok (n : Int) (l : List Rq) (h : checkB n l = true) (i : Nat) (hi : i < l.length) : okQB n l i = true := by
  unfold checkB at h
  simp only [Bool.and_eq_true, decide_eq_true_eq] at h
  exact List.all_eq_true.1 h.2.2 i (List.mem_range.2 hi)
theorem okB_pair (n : Int) (l : List Rq) (i : Nat) (h : okQB n l i = true) (k : Nat) (hk : k < l.length) (hki : k < i) : pairB (l.getD k default) (l.getD i default) = false := by
  unfold okQB at h
  simp only [Bool.and_eq_true, Bool.not_eq_true'] at h
  cases hp : pairB (l.getD k default) (l.getD i default) with
  | false => rfl
  | true =>
    have := any_take_true (fun a => pairB a (l.getD i default)) l k i hk hki hp
    rw [this] at h
    exact absurd h.2 (by simp)
theorem pairB_id (a b : Rq) (h : pairB a b = false) : a.id ≠ b.id ∧ a.txn ≠ b.txn := by
  unfold pairB at h
  simp only [Bool.or_eq_false_iff, beq_eq_false_iff_ne] at h
  exact ⟨h.1.1.1.1, h.1.1.1.2⟩
theorem checkB_ids (n : Int) (l : List Rq) (h : checkB n l = true) : IdsD l := by
  intro i j hi hj he
  rcases Nat.lt_trichotomy i j with hlt | heq | hgt
  · exact absurd he (pairB_id _ _ (okB_pair n l j (checkB_ok n l h j hj) i hi hlt)).1
  · exact heq
  · exact absurd he.symm (pairB_id _ _ (okB_pair n l i (checkB_ok n l h i hi) j hj hgt)).1
end Go.Proofs.YthbamhfnemdebaaGreat
namespace Go.Proofs.YthbamhfnemdebaaGreat
open Go.RowKit
theorem SrcA.cells (w : World) (cs : Array Value) (t : TypeId) (c : Nat) : SrcA (w.alloc (.cells cs t)) cs.size (.slice (some ⟨w.heap.size, 0, none⟩) 1 c) 1 cs.toList := by
  refine .inr ⟨_, _, rfl, by simp, fun j u hu => ?_⟩
  have h := ((Sep.start w).alloc cs t).gblk.cell j
  rw [Addr.add_lit, Nat.zero_add]
  rw [h, ← hu]
  simp
end Go.Proofs.YthbamhfnemdebaaGreat
namespace Go.Proofs.YthbamhfnemdebaaGreat
open Go.RowKit
end Go.Proofs.YthbamhfnemdebaaGreat
namespace Go.Proofs.YthbamhfnemdebaaGreat
open Go.RowKit
/-- A request by itself, and two, the first ahead of the second. -/
def PR (r : Rq) (n : Int) : Prop := 0 ≤ r.id ∧ knownB r.mode = true ∧ knownB r.want = true ∧ 0 ≤ r.since ∧ r.since ≤ n ∧ (0 < r.since → covB r.mode r.want = false) ∧ (¬ 0 < r.since → r.mode ≠ 0 ∧ r.want = r.mode)
theorem PR.mono {r : Rq} {n n' : Int} (h : PR r n) (hn : n ≤ n') : PR r n' := ⟨h.1, h.2.1, h.2.2.1, h.2.2.2.1, Int.le_trans h.2.2.2.2.1 hn, h.2.2.2.2.2⟩
/-- The place of a request. -/
def plc (l : List Rq) (id : Int) : Int := idxF (fun q => q.id == id) l 0
theorem plc_spec (l : List Rq) (id : Int) (h : ¬ plc l id < 0) : ∃ i : Nat, plc l id = i ∧ i < l.length ∧ (l.getD i default).id = id := by
  rcases idxF_bd (fun q : Rq => q.id == id) l 0 with h' | ⟨j, h1, h2, h3⟩
  · unfold plc at h; omega
  · exact ⟨j, by unfold plc; rw [h1]; simp, h2, by simpa using h3⟩
end Go.Proofs.YthbamhfnemdebaaGreat
namespace Go.Proofs.YthbamhfnemdebaaGreat
open Go.RowKit
theorem find_none (t r n : Int) (v : Value) (l : List Rq) (id0 : Int) (w : World) (hv : RQ w v l) (hl : l.length ≤ 1000) (hi : plc l id0 = -1) :
    Calls Tryz.prog 60 #[hval t r v n, .int .i64 id0] w fun e w' => e = .returned (.tuple #[(⟨0, 0, 0, 0, 0⟩ : Rq).val, .bool false]) ∧ Below w.heap.size w w' := by
  have hB := Lib.hid (boxes2 w 43 58 #[.int .i64 t, .int .i64 r, v, .int .i64 n] #[.int .i64 0, .int .i64 0, .int .i64 0, .int .i64 0, .int .i64 0])
  have HP := Lib.hid (fun W hb => place_any t r n v l id0 W (hv.below hb) hl)
  rw [show idxF (fun q : Rq => q.id == id0) l 0 = _ from hi] at HP
  obtain ⟨a, c, rfl, _⟩ := hv
  unfold hval Rq.val at *
  go_enter Tryz.func60, Tryz.ntmps60
  go_wp2_with fail
  refine (HP.out _ hB.out.tail.tail.gold).mono ?_
  rintro e w1 ⟨rfl, b1⟩
  replace hB := Lib.hid (hB.out.below b1)
  obtain ⟨_, p0, p1, p2, p3, p4, _⟩ := hB.out.b5
  clear b1
  go_wp2_with fail
  refine bodyPost_ret (v := .tuple #[.agg #[.int .i64 0, .int .i64 0, .int .i64 0, .int .i64 0, .int .i64 0], .bool false]) (by simp [results, Tryz.results60, go_sem, *]) rfl ⟨rfl, ?_⟩
  first | exact hB.out.tail.tail.gold | exact (((((hB.out.set 0 (.int .i64 0)).set 1 (.int .i64 0)).set 2 (.int .i64 0)).set 3 (.int .i64 0)).set 4 (.int .i64 0)).tail.tail.gold
theorem find_some (t r n : Int) (v : Value) (l : List Rq) (id0 : Int) (w : World) (hv : RQ w v l) (hl : l.length ≤ 1000) (i : Nat) (hi : plc l id0 = i) (hil : i < l.length) :
    Calls Tryz.prog 60 #[hval t r v n, .int .i64 id0] w fun e w' => e = .returned (.tuple #[(l.getD i default).val, .bool true]) ∧ Below w.heap.size w w' := by
  have hB := Lib.hid (boxes2 w 43 58 #[.int .i64 t, .int .i64 r, v, .int .i64 n] #[.int .i64 0, .int .i64 0, .int .i64 0, .int .i64 0, .int .i64 0])
  have HP := Lib.hid (fun W hb => place_any t r n v l id0 W (hv.below hb) hl)
  rw [show idxF (fun q : Rq => q.id == id0) l 0 = _ from hi] at HP
  have i1 : (0 : Int) ≤ (i : Int) := by omega
  have i2 : (i : Int) < (l.length : Int) := by omega
  have d : decide ((i : Int) < 0) = false := by rw [decide_eq_false_iff_not]; omega
  obtain ⟨a, c, rfl, _, _, hr⟩ := hv
  obtain ⟨b, off, rfl, hbl, hz⟩ := hr (by omega)
  have hzi := hz i hil
  clear hz hr hil hi
  generalize l.getD i default = q at *
  obtain ⟨id, txn, mode, want, since⟩ := q
  unfold hval Rq.val at *
  simp only at hzi ⊢
  go_enter Tryz.func60, Tryz.ntmps60
  go_wp2_with fail
  refine (HP.out _ hB.out.tail.tail.gold).mono ?_
  rintro e w1 ⟨rfl, b1⟩
  replace hB := Lib.hid (hB.out.below b1)
  obtain ⟨_, p0, p1, p2, p3, p4, f0, f1, f2, f3, f4⟩ := hB.out.b5
  obtain ⟨_, k0, k1, k2, k3, _⟩ := hB.out.to1.b4
  obtain ⟨z0, z1, z2, z3, z4⟩ := hzi
  rw [← hB.out.tail.tail.gold.cell (by exact hbl)] at z0 z1 z2 z3 z4
  clear b1 HP
  go_wp2_with fail
  refine bodyPost_ret (v := .tuple #[.agg #[.int .i64 id, .int .i64 txn, .int .i64 mode, .int .i64 want, .int .i64 since], .bool true]) (by simp [results, Tryz.results60, go_sem, *]) rfl ⟨rfl, ?_⟩
  exact (((((hB.out.set 0 (.int .i64 id)).set 1 (.int .i64 txn)).set 2 (.int .i64 mode)).set 3 (.int .i64 want)).set 4 (.int .i64 since)).tail.tail.gold
end Go.Proofs.YthbamhfnemdebaaGreat
namespace Go.Proofs.YthbamhfnemdebaaGreat
open Go.RowKit
theorem plc_neg {l : List Rq} {id : Int} (h : plc l id < 0) : plc l id = -1 := by
  rcases idxF_bd (fun q : Rq => q.id == id) l 0 with h' | ⟨j, h1, _, _⟩
  · exact h'
  · unfold plc at h; omega
end Go.Proofs.YthbamhfnemdebaaGreat
