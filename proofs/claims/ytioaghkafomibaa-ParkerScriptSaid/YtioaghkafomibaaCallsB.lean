/-
  The contracts of New, Waiting, Len, of the chapter's example and of the statements' own helper, over a list of states. No condition beside a parker that reads so.
-/
import Derived.Test.YtioaghkafomibaaCalls
namespace Go.Proofs.Ytioaghkafomibaa
open Go.RowKit

theorem len_any (p g : Nat) (L : List Int) (w : World) (h : Par w p g L) :
   Calls Try.prog 19 #[.pointer (some ⟨p, 0, none⟩)] w fun e w' => e = .returned (.int .i64 L.length) ∧ w = w' := by
  have hl := h.len
  have hc := h.hp.cell 0
  simp at hc
  clear h
  go_enter Try.func19, Try.ntmps19
  go_wp2
  go_ret
  exact ⟨rfl, rfl⟩
theorem new_bad (n : Int) (w : World) (h : n < 1 ∨ 8 < n) : Calls Try.prog 9 #[.int .i64 n] w fun e w' => e = .returned (.tuple #[.pointer none, .int .i64 2]) ∧ w = w' := by
  rcases h with h | h
  · go_enter Try.func9, Try.ntmps9
    go_wp2
    go_ret2
    exact ⟨rfl, rfl⟩
  · have : ¬ n < 1 := by omega
    go_enter Try.func9, Try.ntmps9
    go_wp2
    go_ret2
    exact ⟨rfl, rfl⟩
theorem cellsOf_new (n : Nat) : madeCells #[Value.int .i64 0] n = cellsOf (List.replicate n 0) := by
  apply Array.toList_inj.1
  rw [toList_madeCells_one]
  simp [cellsOf]
theorem new_ok (n : Nat) (w : World) (h1 : 1 ≤ n) (h2 : n ≤ 8) : Calls Try.prog 9 #[.int .i64 n] w fun e w' => e = .returned (.tuple #[.pointer (some ⟨w.heap.size + 1, 0, none⟩), .int .i64 0]) ∧ Par w' (w.heap.size + 1) w.heap.size (List.replicate n 0) ∧ Below w.heap.size w w' := by
  obtain ⟨i0, hi, hz0, hz1, hz2⟩ := info_parts info_int
  have hmk := fun W => run_make_rowN (P := Try.prog) 39 3 i0 _ Try.underlying39 hi hz0 .i64 .i64 n n (Nat.le_refl _) (by rw [hz2]; omega) (by omega) W
  go_enter Try.func9, Try.ntmps9
  go_wp2
  go_ret2
  have hb : Below w.heap.size w ((w.alloc (Obj.cells (madeCells #[Value.int .i64 0] n) 3)).alloc (Obj.cells #[Value.slice (some { block := w.heap.size, off := 0 }) n n] 47)) :=
    ((Below.refl _ _).alloc (Nat.le_refl _) _).alloc (by simp) _
  have h0 : Blk ((w.alloc (Obj.cells (madeCells #[Value.int .i64 0] n) 3)).alloc (Obj.cells #[Value.slice (some { block := w.heap.size, off := 0 }) n n] 47)) w.heap.size 3 (madeCells #[Value.int .i64 0] n) := (Blk.new w 3 _).alloc _
  have h1 := Blk.new (w.alloc (Obj.cells (madeCells #[Value.int .i64 0] n) 3)) 47 #[Value.slice (some { block := w.heap.size, off := 0 }) n n]
  refine ⟨rfl, ⟨by simpa using h1, ?_, by simpa using h2, fun k hk => .inl (by simp at hk; simp [List.getD, hk])⟩, hb⟩
  rw [← cellsOf_new]
  exact h0

/-- Which of the first k threads are parked. -/
def waitK (L : List Int) : Nat → List Int
  | 0 => []
  | k+1 => waitK L k ++ (if L.getD k 0 = 1 then [(k : Int)] else [])
theorem waitK_len (L : List Int) : ∀ k, (waitK L k).length ≤ k
  | 0 => Nat.le_refl _
  | k+1 => by have := waitK_len L k; unfold waitK; split <;> simp <;> omega

theorem waiting_any (p g : Nat) (L : List Int) (w : World) (h : Par w p g L) :
   Calls Try.prog 18 #[.pointer (some ⟨p, 0, none⟩)] w fun e w' => ∃ v, e = .returned v ∧ w'.ownsRow w.heap.size 3 1 v (waitK L L.length).length ((waitK L L.length).map (Value.int .i64)) ∧ Below w.heap.size w w' := by
  have hl := h.len
  have HL := Lib.hid (len_any p g L w h)
  replace h := Lib.hid h
  obtain ⟨i0, hi, hz0, hz1, hz2⟩ := info_parts info_int
  go_enter Try.func18, Try.ntmps18
  go_wp2_with (go_at_call 19; refine HL.out.mono ?_; rintro e w' ⟨rfl, rfl⟩)
  go_loopw [3, 7] (fun r i wr => ∃ k : Nat, k ≤ L.length ∧ i = .int .i64 k ∧ wr.ownsRow w.heap.size 3 1 r (waitK L k).length ((waitK L k).map (Value.int .i64)) ∧ Below w.heap.size w wr) (fun _ i _ => L.length - (intOf i).toNat)
  case atStart => exact ⟨0, Nat.zero_le _, rfl, World.ownsRow_nil _ _ _ _, Below.refl _ _⟩
  case round =>
    obtain ⟨k, hk, rfl, hown, hbel⟩ := hrel
    have hhl := waitK_len L k
    have hsz := hbel.size
    by_cases hlt : k < L.length
    · have HP := Lib.hid (parked_any p g k L _ (h.out.below hbel))
      have e0 : isB L k 1 = decide (L.getD k 0 = 1) := by simp [isB, okT, hlt]
      by_cases hst : L.getD k 0 = 1
      · have E := Lib.hid (show waitK L (k+1) = waitK L k ++ [(k:Int)] by rw [waitK, if_pos hst])
        rw [hst] at e0
        simp at e0
        clear hst
        go_wp2_with (first | (go_at_call 10; refine HP.out.mono ?_; rintro e w' ⟨rfl, rfl⟩) | (at_builtin; refine wpList_append_own _ rfl _ _ 39 rfl (w.heap.size) 3 i0 (.int .i64 0) 1 8 Try.underlying39 hi hz0 hz1 hz2 rfl (by decide) _ _ _ rfl (hown.alloc _) ⟨wr.heap.size, 0, none⟩ 1 1 [.int .i64 k] rfl rfl ?c1 ?c2 ?c3 ?c4 ?c5 ?_))
        case c1 => exact cell_one_new _ _ _
        case c2 => simp [Value.oneCell']
        case c3 => simp only [maxLen]; omega
        case c4 => omega
        case c5 => simp; omega
        intro v' w1 hown1 hg1 _
        have hb1 : Below w.heap.size w w1 := (hbel.alloc hsz _).grown hg1 (by simp; omega) (fun q hq => (hown.lt q hq).1)
        clear hg1 hown hbel
        go_wp2
        go_roundw
        case rel => exact ⟨k+1, by omega, by go_num, by rw [E.out]; simpa using hown1, hb1⟩
        case measure => simp [intOf]; omega
      · have E := Lib.hid (show waitK L (k+1) = waitK L k by rw [waitK, if_neg hst]; simp)
        have e1 : isB L k 1 = false := by rw [e0]; simpa using hst
        clear hst e0
        go_wp2_with (go_at_call 10; refine HP.out.mono ?_; rintro e w' ⟨rfl, rfl⟩)
        go_roundw
        case rel => exact ⟨k+1, by omega, by go_num, by rw [E.out]; exact hown, hbel⟩
        case measure => simp [intOf]; omega
    · go_wp2
      go_ret
      have : k = L.length := by omega
      subst this
      exact ⟨_, rfl, hown, hbel⟩

theorem lives_any (w : World) : Calls Try.prog 8 #[] w fun e w' => e = .returned (.bool true) ∧ Below w.heap.size w w' := by
  have HN := Lib.hid (new_ok 1 w (by omega) (by omega))
  go_enter Try.func8, Try.ntmps8
  go_wp2_with fail
  refine HN.out.mono ?_
  rintro e w1 ⟨rfl, h1, b1⟩
  replace h1 : Par w1 (w.heap.size + 1) w.heap.size [0] := h1
  go_wp2_with fail
  refine (unpark_any _ _ 0 [0] _ h1).mono ?_
  rintro e w2 ⟨rfl, h2, b2⟩
  replace h2 : Par w2 (w.heap.size + 1) w.heap.size [2] := h2
  replace b2 := below_grown b1 b2 b1.size (Nat.le_refl _)
  rw [show isB [0] 0 1 = false from rfl, show unC [0] 0 = 0 from rfl]
  clear h1 b1
  go_wp2_with fail
  refine (park_any _ _ 0 [2] _ h2).mono ?_
  rintro e w3 ⟨rfl, h3, b3⟩
  replace h3 : Par w3 (w.heap.size + 1) w.heap.size [0] := h3
  replace b3 := below_grown b2 b3 b2.size (Nat.le_refl _)
  rw [show isB [2] 0 2 = true from rfl, show parkC [2] 0 = 0 from rfl]
  clear h2 b2
  go_wp2_with fail
  refine (park_any _ _ 0 [0] _ h3).mono ?_
  rintro e w4 ⟨rfl, h4, b4⟩
  replace h4 : Par w4 (w.heap.size + 1) w.heap.size [1] := h4
  replace b4 := below_grown b3 b4 b3.size (Nat.le_refl _)
  rw [show isB [0] 0 2 = false from rfl, show parkC [0] 0 = 0 from rfl]
  clear h3 b3
  go_wp2_with fail
  refine (unpark_any _ _ 0 [1] _ h4).mono ?_
  rintro e w5 ⟨rfl, h5, b5⟩
  replace b5 := below_grown b4 b5 b4.size (Nat.le_refl _)
  rw [show isB [1] 0 1 = true from rfl, show unC [1] 0 = 0 from rfl]
  clear h4 b4 h5
  go_wp2_with fail
  go_ret
  exact ⟨rfl, b5⟩

def doS (L : List Int) (c t : Int) : List Int := if c % 4 = 2 then unS L t else if c % 4 = 3 then dropS L t else parkS L t
theorem do_any (p g : Nat) (c t : Int) (L : List Int) (w : World) (h : Par w p g L) :
   Calls Try.prog 15 #[.pointer (some ⟨p, 0, none⟩), .agg #[.int .i64 c, .int .i64 t]] w fun e w' => e = .returned (.tuple #[]) ∧ Par w' p g (doS L c t) ∧ w.grownBy w' (some g) := by
  obtain ⟨q, PQ⟩ := pick_nat c 4 (by omega) (by omega)
  have hq := PQ.lt
  have hqe := PQ.eq
  have hpl := h.hp.lt
  have h1 := h.below ((Below.refl w.heap.size w).alloc (Nat.le_refl _) (.cells #[.int .i64 c, .int .i64 t] 36))
  have hg1 : w.grownBy (w.alloc (.cells #[.int .i64 c, .int .i64 t] 36)) (some g) := World.grownBy_alloc _ _ _
  have HU := Lib.hid (unpark_any p g t L _ h1)
  have HD := Lib.hid (drop_any p g t L _ h1)
  have HK := Lib.hid (park_any p g t L _ h1)
  replace hg1 := Lib.hid hg1
  clear h h1
  by_cases h2 : q = 2
  · have e := Lib.hid (show doS L c t = unS L t by unfold doS; rw [if_pos (by have := hqe.out; omega)])
    have eq2 : ((q : Int) == 2) = true := by rw [beq_iff_eq]; omega
    clear h2
    go_enter Try.func15, Try.ntmps15
    go_wp2_with (first | (go_at_call 14; with_reducible refine (PQ.run.out _).mono ?_; rintro e w' ⟨rfl, rfl⟩) | (go_at_call 13; refine HU.out.mono ?_; rintro e w' ⟨rfl, hh, hgg⟩))
    go_end0
    exact ⟨rfl, by rw [e.out]; exact hh, grown_trans hg1.out hgg⟩
  · by_cases h3 : q = 3
    · have e := Lib.hid (show doS L c t = dropS L t by unfold doS; rw [if_neg (by have := hqe.out; omega), if_pos (by have := hqe.out; omega)])
      have eq2 : ((q : Int) == 2) = false := by rw [beq_eq_false_iff_ne]; omega
      have eq3 : ((q : Int) == 3) = true := by rw [beq_iff_eq]; omega
      clear h2 h3
      go_enter Try.func15, Try.ntmps15
      go_wp2_with (first | (go_at_call 14; with_reducible refine (PQ.run.out _).mono ?_; rintro e w' ⟨rfl, rfl⟩) | (go_at_call 16; refine HD.out.mono ?_; rintro e w' ⟨rfl, hh, hgg⟩))
      go_end0
      exact ⟨rfl, by rw [e.out]; exact hh, grown_trans hg1.out hgg⟩
    · have e := Lib.hid (show doS L c t = parkS L t by unfold doS; rw [if_neg (by have := hqe.out; omega), if_neg (by have := hqe.out; omega)])
      have eq2 : ((q : Int) == 2) = false := by rw [beq_eq_false_iff_ne]; omega
      have eq3 : ((q : Int) == 3) = false := by rw [beq_eq_false_iff_ne]; omega
      clear h2 h3
      go_enter Try.func15, Try.ntmps15
      go_wp2_with (first | (go_at_call 14; with_reducible refine (PQ.run.out _).mono ?_; rintro e w' ⟨rfl, rfl⟩) | (go_at_call 12; refine HK.out.mono ?_; rintro e w' ⟨rfl, hh, hgg⟩))
      go_end0
      exact ⟨rfl, by rw [e.out]; exact hh, grown_trans hg1.out hgg⟩
end Go.Proofs.Ytioaghkafomibaa
