/-
  The contracts of Mode, and of small things of the statements. No condition beside requests that can be read.
-/
import Derived.Test.YtmacpjnkmkaloaaQCheck
namespace Go.Proofs.Ytmacpjnkmkaloaa
open Go.RowKit
theorem kitT_any (t : Int) (w : World) : Calls Try.prog 23 #[.int .i64 t] w fun e w' => e = .returned (.agg #[.int .i64 t, .int .i64 (-1)]) ∧ Below w.heap.size w w' := by
  go_enter Try.func23, Try.ntmps23
  go_wp2
  exact bodyPost_ret (v := .agg #[.int .i64 t, .int .i64 (-1)]) (by simp [results, Try.results23, go_sem]) rfl ⟨rfl, (Below.refl _ _).alloc (Nat.le_refl _) _⟩
theorem empty_any (w : World) : Calls Try.prog 17 #[] w fun e w' => e = .returned (hval 0 (-1) (.slice none 0 0) 0) ∧ Below w.heap.size w w' := by
  have hB := Lib.hid ((Sep.start w).alloc #[.int .i64 0, .int .i64 0, .slice none 0 0, .int .i64 0] 26)
  have H := Lib.hid (fun W => kitT_any 0 W)
  unfold hval
  go_enter Try.func17, Try.ntmps17
  go_wp2_with fail
  refine (H.out _).mono ?_
  rintro e w1 ⟨rfl, b1⟩
  replace hB := Lib.hid (hB.out.below b1)
  obtain ⟨y2, e0, e1, e2, e3, f0, f1, f2, f3⟩ := hB.out.b4
  clear b1
  go_wp2_with fail
  refine bodyPost_ret (v := .agg #[.int .i64 0, .int .i64 (-1), .slice none 0 0, .int .i64 0]) (by simp [results, Try.results17, go_sem, *]) rfl ⟨rfl, ?_⟩
  exact ((((hB.out.set 0 (.int .i64 0)).set 1 (.int .i64 (-1))).set 2 (.slice none 0 0)).set 3 (.int .i64 0)).tail.gold
/-- What a transaction holds. -/
def modeOf (l : List Rq) (t0 : Int) : Int := if idxF (fun q => q.txn == t0) l 0 < 0 then 0 else (l.getD (idxF (fun q => q.txn == t0) l 0).toNat default).mode
theorem mode_any (t r n : Int) (v : Value) (l : List Rq) (t0 : Int) (w : World) (hv : RQ w v l) (hl : l.length ≤ 1000) :
    Calls Try.prog 28 #[hval t r v n, .int .i64 t0] w fun e w' => e = .returned (.int .i64 (modeOf l t0)) ∧ Below w.heap.size w w' := by
  have H := Lib.hid (fun b0 => index_any v l 64 #[.pointer (some ⟨w.heap.size + 1, 0, none⟩)] (fun q => q.txn == t0) ((w.alloc (.cells b0 26)).alloc (.cells #[.int .i64 t0] 3)) (hv.below (two_boxes _ _ _ _ _)) hl
    (mode1 t0 (w.heap.size + 1) _ (by simp) (snd_box _ _ _ _ _ 0)) eg_mode)
  have hB := Lib.hid (fun b0 => boxes2 w 26 3 b0 #[.int .i64 t0])
  have hbd := idxF_bd (fun q => q.txn == t0) l 0
  have hv' := Lib.hid hv
  obtain ⟨a, c, rfl, hlc, _, hr⟩ := hv
  unfold modeOf
  generalize idxF (fun q => q.txn == t0) l 0 = x at *
  replace hr := Lib.hid hr
  have eg := eg_mode
  unfold hval
  rcases hbd with rfl | ⟨j, hx, hj, _⟩
  · go_enter Try.func28, Try.ntmps28
    go_wp2_with fail
    refine (H.out _).mono ?_
    rintro e w1 ⟨rfl, b1⟩
    have fin := Lib.hid ((hB.out _).below b1).tail.tail.gold
    clear b1
    go_wp2_with fail
    go_ret
    exact ⟨rfl, fin.out⟩
  · rw [Nat.zero_add] at hx
    subst hx
    rw [if_neg (by omega), Int.toNat_natCast]
    obtain ⟨b, off, rfl, hbl, hz⟩ := hr.out (by omega)
    have z2 := (hz j hj).2.2.1
    have d : decide ((j : Int) < 0) = false := by rw [decide_eq_false_iff_not]; omega
    have i1 : (0 : Int) ≤ (j : Int) := by omega
    have i2 : (j : Int) < (l.length : Int) := by omega
    clear hz hr
    generalize (l.getD j default).mode = mo at *
    generalize l.length = m at *
    go_enter Try.func28, Try.ntmps28
    go_wp2_with fail
    refine (H.out _).mono ?_
    rintro e w1 ⟨rfl, b1⟩
    replace hB := Lib.hid ((hB.out _).below b1)
    obtain ⟨y3, k0, k1, k2, k3, _⟩ := hB.out.to1.b4
    rw [← hB.out.tail.tail.gold.cell (by exact hbl)] at z2
    clear b1
    go_wp2_with fail
    go_ret
    exact ⟨rfl, hB.out.tail.tail.gold⟩
end Go.Proofs.Ytmacpjnkmkaloaa
