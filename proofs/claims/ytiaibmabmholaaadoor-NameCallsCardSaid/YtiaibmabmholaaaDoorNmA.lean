/-
  Contracts of the package name: Check, made, Table, Record, Ancestors. No condition.
-/
import Derived.Test.YtiaibmabmholaaaDoorNmC
import Derived.Test.YtiaibmabmholaaaDoorSeq
namespace Go.Proofs.YtiaibmabmholaaaDoor
open Go.RowKit
theorem check_any (t r : Int) (w : World) : Calls Tryd.prog 10 #[(.agg #[.int .i64 t, .int .i64 r])] w fun e w' => e = .returned (.int .i64 (if lv t r = -1 then 2 else 0)) ∧ Below w.heap.size w w' := by
  have hS := Lib.hid (box1 w t r)
  obtain ⟨z, c0, c1, _⟩ := hS.out.b2
  by_cases h : lv t r = -1
  · have e : (lv t r == -1) = true := by rw [h]; rfl
    rw [if_pos h]
    clear h
    go_enter Tryd.func10, Tryd.ntmps10
    go_wp2_with fail
    refine (level_any _ _ _).mono ?_
    rintro e w1 ⟨rfl, b1⟩
    replace hS := Lib.hid (hS.out.below b1)
    clear b1
    go_wp2_with fail
    go_ret
    exact ⟨rfl, hS.out.tail.gold⟩
  · have e : (lv t r == -1) = false := by rw [beq_eq_false_iff_ne]; exact h
    rw [if_neg h]
    clear h
    go_enter Tryd.func10, Tryd.ntmps10
    go_wp2_with fail
    refine (level_any _ _ _).mono ?_
    rintro e w1 ⟨rfl, b1⟩
    replace hS := Lib.hid (hS.out.below b1)
    clear b1
    go_wp2_with fail
    go_ret
    exact ⟨rfl, hS.out.tail.gold⟩
theorem made_yes (t r l : Int) (w : World) (h : lv t r = l) : Calls Tryd.prog 37 #[(.agg #[.int .i64 t, .int .i64 r]), .int .i64 l] w fun e w' => e = .returned (.tuple #[(.agg #[.int .i64 t, .int .i64 r]), .int .i64 0]) ∧ Below w.heap.size w w' := by
  have hS := Lib.hid ((box1 w t r).alloc #[Value.int .i64 (0), Value.int .i64 (0)] 23)
  rw [World.size_alloc] at hS
  obtain ⟨z, c0, c1, _⟩ := hS.out.to1.b2
  subst h
  have e : (lv t r == lv t r) = true := beq_self_eq_true _
  have e2 : (lv t r != lv t r) = false := bne_self_eq_false _
  go_enter Tryd.func37, Tryd.ntmps37
  go_wp2_with fail
  refine (level_any _ _ _).mono ?_
  rintro e w1 ⟨rfl, b1⟩
  replace hS := Lib.hid (hS.out.below b1)
  clear b1 c0 c1
  obtain ⟨_, c0, c1, _⟩ := hS.out.to1.b2
  obtain ⟨_, d0, d1, f0, f1⟩ := hS.out.b2
  go_wp2_with fail
  refine bodyPost_ret (v := .tuple #[(.agg #[.int .i64 t, .int .i64 r]), .int .i64 0]) (by simp [results, Tryd.results37, go_sem, *]) rfl ⟨rfl, ?_⟩
  exact ((hS.out.set 0 _).set 1 _).tail.tail.gold
theorem made_no (t r l : Int) (w : World) (h : lv t r ≠ l) : Calls Tryd.prog 37 #[(.agg #[.int .i64 t, .int .i64 r]), .int .i64 l] w fun e w' => e = .returned (.tuple #[(.agg #[.int .i64 0, .int .i64 0]), .int .i64 2]) ∧ Below w.heap.size w w' := by
  have hS := Lib.hid ((box1 w t r).alloc #[Value.int .i64 (0), Value.int .i64 (0)] 23)
  rw [World.size_alloc] at hS
  obtain ⟨z, c0, c1, _⟩ := hS.out.to1.b2
  have e : (lv t r == l) = false := beq_eq_false_iff_ne.2 h
  have e2 : (lv t r != l) = true := bne_iff_ne.2 h
  clear h
  go_enter Tryd.func37, Tryd.ntmps37
  go_wp2_with fail
  refine (level_any _ _ _).mono ?_
  rintro e w1 ⟨rfl, b1⟩
  replace hS := Lib.hid (hS.out.below b1)
  clear b1 c0 c1
  obtain ⟨_, c0, c1, _⟩ := hS.out.to1.b2
  obtain ⟨_, d0, d1, f0, f1⟩ := hS.out.b2
  go_wp2_with fail
  refine bodyPost_ret (v := .tuple #[(.agg #[.int .i64 0, .int .i64 0]), .int .i64 2]) (by simp [results, Tryd.results37, go_sem, *]) rfl ⟨rfl, ?_⟩
  exact ((hS.out.set 0 _).set 1 _).tail.tail.gold
/-- What Table and Record answer. -/
def MkV (t r l a b c : Int) : Prop := (lv t r = l ∧ a = t ∧ b = r ∧ c = 0) ∨ (lv t r ≠ l ∧ a = 0 ∧ b = 0 ∧ c = 2)
/-- How many ancestors there are. -/
def AncK (t r : Int) (k : Nat) : Prop := (k : Int) = if lv t r = -1 then 0 else lv t r
theorem AncK.lt {t r : Int} {k : Nat} (h : AncK t r k) : k ≤ 2 := by
  unfold AncK at h
  have := lv_spec t r
  split at h <;> omega
theorem made_any (t r l : Int) (w : World) : Calls Tryd.prog 37 #[(.agg #[.int .i64 t, .int .i64 r]), .int .i64 l] w fun e w' => ∃ a b c : Int, e = .returned (.tuple #[(.agg #[.int .i64 a, .int .i64 b]), .int .i64 c]) ∧ MkV t r l a b c ∧ Below w.heap.size w w' := by
  by_cases h : lv t r = l
  · refine (made_yes t r l w h).mono ?_
    rintro e w1 ⟨rfl, b1⟩
    exact ⟨_, _, _, rfl, .inl ⟨h, rfl, rfl, rfl⟩, b1⟩
  · refine (made_no t r l w h).mono ?_
    rintro e w1 ⟨rfl, b1⟩
    exact ⟨_, _, _, rfl, .inr ⟨h, rfl, rfl, rfl⟩, b1⟩
theorem table_any (t : Int) (w : World) : Calls Tryd.prog 13 #[.int .i64 t] w fun e w' => ∃ a b c : Int, e = .returned (.tuple #[(.agg #[.int .i64 a, .int .i64 b]), .int .i64 c]) ∧ MkV t (-1) 1 a b c ∧ Below w.heap.size w w' := by
  have hS := Lib.hid ((Sep.start w).alloc #[Value.int .i64 (0), Value.int .i64 (0)] 23)
  go_enter Tryd.func13, Tryd.ntmps13
  go_wp2_with fail
  refine (made_any _ _ _ _).mono ?_
  rintro e w1 ⟨a, b, c, rfl, hv, b1⟩
  replace hS := Lib.hid (hS.out.below b1)
  clear b1
  obtain ⟨_, d0, d1, f0, f1⟩ := hS.out.b2
  go_wp2_with fail
  refine bodyPost_ret (v := .tuple #[(.agg #[.int .i64 a, .int .i64 b]), .int .i64 c]) (by simp [results, Tryd.results13, go_sem, *]) rfl ⟨a, b, c, rfl, hv, ?_⟩
  exact ((hS.out.set 0 _).set 1 _).tail.gold
theorem record_any (t r : Int) (w : World) : Calls Tryd.prog 14 #[.int .i64 t, .int .i64 r] w fun e w' => ∃ a b c : Int, e = .returned (.tuple #[(.agg #[.int .i64 a, .int .i64 b]), .int .i64 c]) ∧ MkV t r 2 a b c ∧ Below w.heap.size w w' := by
  have hS := Lib.hid ((Sep.start w).alloc #[Value.int .i64 (0), Value.int .i64 (0)] 23)
  go_enter Tryd.func14, Tryd.ntmps14
  go_wp2_with fail
  refine (made_any _ _ _ _).mono ?_
  rintro e w1 ⟨a, b, c, rfl, hv, b1⟩
  replace hS := Lib.hid (hS.out.below b1)
  clear b1
  obtain ⟨_, d0, d1, f0, f1⟩ := hS.out.b2
  go_wp2_with fail
  refine bodyPost_ret (v := .tuple #[(.agg #[.int .i64 a, .int .i64 b]), .int .i64 c]) (by simp [results, Tryd.results14, go_sem, *]) rfl ⟨a, b, c, rfl, hv, ?_⟩
  exact ((hS.out.set 0 _).set 1 _).tail.gold
/-- The ancestors' slice: a block of two names. -/
theorem ancestors_any (t r : Int) (w : World) : Calls Tryd.prog 18 #[(.agg #[.int .i64 t, .int .i64 r])] w fun e w' => ∃ g k, e = .returned (.slice (some ⟨g, 0, none⟩) k 2) ∧ AncK t r k ∧ Sep w' [blk g 23 #[.int .i64 (-1), .int .i64 (-1), .int .i64 t, .int .i64 (-1)], old w] := by
  have hS := Lib.hid (box1 w t r)
  obtain ⟨z, c0, c1, _⟩ := hS.out.b2
  go_enter Tryd.func18, Tryd.ntmps18
  go_wp2_with fail
  go_region_held3 (fun w' => w'.cell? ⟨w.heap.size, 0, none⟩ = some (.int .i64 t) ∧ w'.cell? ⟨w.heap.size, 1, none⟩ = some (.int .i64 r)) (exact ⟨by first | assumption | go_simp, by first | assumption | go_simp⟩) ((go_at_call 24; refine (database_any _).mono ?_; rintro e w1 ⟨rfl, b1⟩; have hS2 := Lib.hid ((show Sep _ [blk w.heap.size 23 #[Value.int .i64 (t), Value.int .i64 (r)], old w] from by first | exact hS.out | exact hS.out.drew).below b1); obtain ⟨z2, d0, d1, _⟩ := hS2.out.b2; clear b1))
  go_wp2_with fail
  refine (level_any _ _ _).mono ?_
  rintro e w2 ⟨rfl, b2⟩
  have hF := Lib.hid ((hS2.out.tail.alloc #[.int .i64 (-1), .int .i64 (-1), .int .i64 t, .int .i64 (-1)] 23).below b2)
  clear c0 c1 d0 d1 z z2 b2 hS hS2
  have hsp := lv_spec t r
  obtain ⟨k, hk⟩ : ∃ k : Nat, AncK t r k := by
    by_cases h : lv t r = -1
    · exact ⟨0, by simp [AncK, h]⟩
    · exact ⟨(lv t r).toNat, by rw [AncK, if_neg h]; omega⟩
  have hk' := hk
  unfold AncK at hk'
  generalize lv t r = x at *
  by_cases h : x = -1
  · subst h
    obtain rfl : k = 0 := by simpa using hk'
    clear hsp hk'
    replace hk := Lib.hid hk
    go_wp2_with fail
    go_ret
    exact ⟨_, 0, by simp, hk.out, hF.out⟩
  · rw [if_neg h] at hk'
    subst hk'
    have h0 : 0 ≤ (k : Int) := by omega
    have h1 : (k : Int) ≤ 2 := by omega
    clear hsp h
    replace hk := Lib.hid hk
    go_wp2_with fail
    go_ret
    exact ⟨_, k, by simp, hk.out, hF.out⟩
end Go.Proofs.YtiaibmabmholaaaDoor
