/-
  Contracts of the package name that the stripes call. No condition.
-/
import Derived.Test.YtgbffkjfjkfiaaaDoorNmL
import Derived.Deep.RegionHeld3
import Derived.RegionTactic
import Derived.Deep.RegionWith
namespace Go.Proofs.YtgbffkjfjkfiaaaDoor
open Go.RowKit
def nm (t r : Int) : Value := .agg #[.int .i64 t, .int .i64 r]
theorem belTN {w w1 w2 : World} (h : Below w.heap.size w w1) (h' : Below w1.heap.size w1 w2) : Below w.heap.size w w2 := h.trans (h'.mono h.size)
theorem heldN : Tryd.prog.stoodInHeld 29 = false := by kernel_rfl
theorem undN : Tryd.prog.underlying 29 = some (.struct (Tryd.prog.fieldsOf 29)) := by kernel_rfl
theorem namesN : (Tryd.prog.fieldsOf 29).toList.map (fun f => (f.name == "_", f.type, f.offset)) = [(false, 3, 0), (false, 3, 1)] := by kernel_rfl
theorem fieldsN : ∃ f0 f1 : Field, (Tryd.prog.fieldsOf 29).toList = [f0, f1] ∧ (f0.name == "_") = false ∧ (f1.name == "_") = false ∧ f0.type = 3 ∧ f1.type = 3 ∧ f0.offset = 0 ∧ f1.offset = 1 := by
  have h := namesN
  generalize (Tryd.prog.fieldsOf 29).toList = fs at h ⊢
  have hlen := congrArg List.length h
  rcases fs with _ | ⟨f0, _ | ⟨f1, _ | ⟨f2, fs⟩⟩⟩ <;> simp at hlen
  · simp only [List.map_cons, List.map_nil, List.cons.injEq, Prod.mk.injEq, and_true] at h
    obtain ⟨⟨a0, b0, c0⟩, ⟨a1, b1, c1⟩⟩ := h
    exact ⟨f0, f1, rfl, a0, a1, b0, b1, c0, c1⟩
theorem equalIn_nm (d : Nat) (a0 a1 b0 b1 : Int) (w : World) :
    (Op.equalIn (d + 2) 29 (.agg #[.int .i64 a0, .int .i64 a1]) (.agg #[.int .i64 b0, .int .i64 b1])).run Tryd.prog w = .ok (a0 == b0 && a1 == b1) w := by
  rw [run_equalIn_struct (P := Tryd.prog) w (d + 1) 29 _ _ undN heldN]
  obtain ⟨f0, f1, hl, n0, n1, t0, t1, o0, o1⟩ := fieldsN
  rw [hl]
  have m0 : Tryd.prog.underlying 3 = some (.int .i64) := Tryd.underlying3
  simp only [beq_eq_false_iff_ne] at n0 n1
  simp only [Op.eqFields, n0, n1, t0, t1, o0, o1, ne_eq, not_false_eq_true, if_true]
  simp [part, isAgg, run_underlying m0, run_equalIn_int, m0]
  by_cases h0 : a0 = b0 <;> by_cases h1 : a1 = b1 <;> simp [h0, h1]
def nmB (a0 a1 b0 b1 : Int) : Bool := a0 == b0 && a1 == b1
theorem nmB_true {a0 a1 b0 b1 : Int} (h : a0 = b0 ∧ a1 = b1) : nmB a0 a1 b0 b1 = true := by simp [nmB, h.1, h.2]
theorem nmB_false {a0 a1 b0 b1 : Int} (h : ¬(a0 = b0 ∧ a1 = b1)) : nmB a0 a1 b0 b1 = false := by
  rw [Bool.eq_false_iff]; intro k; simp [nmB] at k; exact h k
theorem run_eql_nm (a0 a1 b0 b1 : Int) (w : World) :
    (binOp .eql 29 (.agg #[.int .i64 a0, .int .i64 a1]) (.agg #[.int .i64 b0, .int .i64 b1])).run Tryd.prog w = .ok (.bool (nmB a0 a1 b0 b1)) w := by
  have h := equalIn_nm 9998 a0 a1 b0 b1 w
  simp only [binOp]
  simp [Op.equal, Op.maxDepth, h, nmB]
theorem run_neq_nm (a0 a1 b0 b1 : Int) (w : World) :
    (binOp .neq 29 (.agg #[.int .i64 a0, .int .i64 a1]) (.agg #[.int .i64 b0, .int .i64 b1])).run Tryd.prog w = .ok (.bool !(nmB a0 a1 b0 b1)) w := by
  have h := equalIn_nm 9998 a0 a1 b0 b1 w
  simp only [binOp]
  simp [Op.equal, Op.maxDepth, h, nmB]
def wiB (n : Int) : Bool := decide (0 ≤ n ∧ n < 100)
theorem within_any (n : Int) (w : World) : Calls Tryd.prog 33 #[.int .i64 n] w fun e w' => e = .returned (.bool (wiB n)) ∧ w = w' := by
  unfold wiB
  by_cases h1 : 0 ≤ n
  · by_cases h2 : n < 100
    · rw [show decide (0 ≤ n ∧ n < 100) = true by simp [h1, h2]]
      go_enter Tryd.func33, Tryd.ntmps33
      go_wp2
      go_ret
      exact ⟨rfl, rfl⟩
    · rw [show decide (0 ≤ n ∧ n < 100) = false by simp [h2]]
      go_enter Tryd.func33, Tryd.ntmps33
      go_wp2
      go_ret
      exact ⟨rfl, rfl⟩
  · rw [show decide (0 ≤ n ∧ n < 100) = false by simp [h1]]
    go_enter Tryd.func33, Tryd.ntmps33
    go_wp2
    go_ret
    exact ⟨rfl, rfl⟩
theorem database_any (w : World) : Calls Tryd.prog 32 #[] w fun e w' => e = .returned (.agg #[.int .i64 (-1), .int .i64 (-1)]) ∧ Below w.heap.size w w' := by
  go_enter Tryd.func32, Tryd.ntmps32
  go_wp2
  refine bodyPost_ret (v := (.agg #[.int .i64 (-1), .int .i64 (-1)])) (by simp [results, Tryd.results32, go_sem, *]) rfl ⟨rfl, ?_⟩
  exact (Below.refl _ _).alloc (Nat.le_refl _) _
theorem box1 (w : World) (t r : Int) : Sep (w.alloc (.cells #[Value.int .i64 (t), Value.int .i64 (r)] 29)) [blk w.heap.size 29 #[Value.int .i64 (t), Value.int .i64 (r)], old w] := (Sep.start w).alloc _ _
theorem wiB_yes {n : Int} (h : 0 ≤ n ∧ n < 100) : wiB n = true := decide_eq_true h
theorem wiB_no {n : Int} (h : ¬(0 ≤ n ∧ n < 100)) : wiB n = false := decide_eq_false h
set_option maxHeartbeats 1000000 in
theorem level_any (t r : Int) (w : World) : Calls Tryd.prog 28 #[(.agg #[.int .i64 t, .int .i64 r])] w fun e w' => e = .returned (.int .i64 (lv t r)) ∧ Below w.heap.size w w' := by
  have hs := lv_spec t r
  have hq := fun a b c d => run_eql_nm a b c d
  rcases hs with ⟨h1, h2, hl⟩ | ⟨h1, h2, h3, hl⟩ | ⟨h1, h2, h3, h4, hl⟩ | ⟨hl, h1, h2⟩
  · have e := nmB_true (⟨h1, h2⟩ : t = -1 ∧ r = -1)
    rw [hl]
    clear hl h1 h2
    have hS := Lib.hid (box1 w t r)
    obtain ⟨z, c0, c1, _⟩ := hS.out.b2
    go_enter Tryd.func28, Tryd.ntmps28
    go_wp2_with fail
    go_region_held3 (fun w' => w'.cell? ⟨w.heap.size, 0, none⟩ = some (.int .i64 t) ∧ w'.cell? ⟨w.heap.size, 1, none⟩ = some (.int .i64 r)) (exact ⟨by assumption, by assumption⟩) ((go_at_call 32; refine (database_any _).mono ?_; rintro e w1 ⟨rfl, b1⟩; have hS2 := Lib.hid ((show Sep _ [blk w.heap.size 29 #[Value.int .i64 (t), Value.int .i64 (r)], old w] from by first | exact hS.out | exact hS.out.drew).below b1); obtain ⟨_, d0, d1, _⟩ := hS2.out.b2; clear b1))
    go_wp2_with (go_at_call 33; refine (within_any _ _).mono ?_; rintro e w2 ⟨rfl, rfl⟩)
    go_ret
    exact ⟨rfl, hS2.out.tail.gold⟩
  · have e := nmB_false (show ¬(t = -1 ∧ r = -1) by omega)
    have e1 := wiB_yes ⟨h1, h2⟩
    have e2 : (r == -1) = true := by rw [h3]; rfl
    rw [hl]
    clear hl h1 h2 h3
    have hS := Lib.hid (box1 w t r)
    obtain ⟨z, c0, c1, _⟩ := hS.out.b2
    go_enter Tryd.func28, Tryd.ntmps28
    go_wp2_with fail
    go_region_held3 (fun w' => w'.cell? ⟨w.heap.size, 0, none⟩ = some (.int .i64 t) ∧ w'.cell? ⟨w.heap.size, 1, none⟩ = some (.int .i64 r)) (exact ⟨by assumption, by assumption⟩) ((go_at_call 32; refine (database_any _).mono ?_; rintro e w1 ⟨rfl, b1⟩; have hS2 := Lib.hid ((show Sep _ [blk w.heap.size 29 #[Value.int .i64 (t), Value.int .i64 (r)], old w] from by first | exact hS.out | exact hS.out.drew).below b1); obtain ⟨_, d0, d1, _⟩ := hS2.out.b2; clear b1))
    go_wp2_with (go_at_call 33; refine (within_any _ _).mono ?_; rintro e w2 ⟨rfl, rfl⟩)
    go_ret
    exact ⟨rfl, hS2.out.tail.gold⟩
  · have e := nmB_false (show ¬(t = -1 ∧ r = -1) by omega)
    have e1 := wiB_yes ⟨h1, h2⟩
    have e3 := wiB_yes ⟨h3, h4⟩
    have e2 : (r == -1) = false := by rw [beq_eq_false_iff_ne]; omega
    rw [hl]
    clear hl h1 h2 h3 h4
    have hS := Lib.hid (box1 w t r)
    obtain ⟨z, c0, c1, _⟩ := hS.out.b2
    go_enter Tryd.func28, Tryd.ntmps28
    go_wp2_with fail
    go_region_held3 (fun w' => w'.cell? ⟨w.heap.size, 0, none⟩ = some (.int .i64 t) ∧ w'.cell? ⟨w.heap.size, 1, none⟩ = some (.int .i64 r)) (exact ⟨by assumption, by assumption⟩) ((go_at_call 32; refine (database_any _).mono ?_; rintro e w1 ⟨rfl, b1⟩; have hS2 := Lib.hid ((show Sep _ [blk w.heap.size 29 #[Value.int .i64 (t), Value.int .i64 (r)], old w] from by first | exact hS.out | exact hS.out.drew).below b1); obtain ⟨_, d0, d1, _⟩ := hS2.out.b2; clear b1))
    go_wp2_with (go_at_call 33; refine (within_any _ _).mono ?_; rintro e w2 ⟨rfl, rfl⟩)
    go_ret
    exact ⟨rfl, hS2.out.tail.gold⟩
  · have e := nmB_false h1
    rw [hl]
    by_cases ht : 0 ≤ t ∧ t < 100
    · have e1 := wiB_yes ht
      have e3 := wiB_no (show ¬(0 ≤ r ∧ r < 100) by omega)
      have e2 : (r == -1) = false := by rw [beq_eq_false_iff_ne]; omega
      clear hl h1 h2 ht
      have hS := Lib.hid (box1 w t r)
      obtain ⟨z, c0, c1, _⟩ := hS.out.b2
      go_enter Tryd.func28, Tryd.ntmps28
      go_wp2_with fail
      go_region_held3 (fun w' => w'.cell? ⟨w.heap.size, 0, none⟩ = some (.int .i64 t) ∧ w'.cell? ⟨w.heap.size, 1, none⟩ = some (.int .i64 r)) (exact ⟨by assumption, by assumption⟩) ((go_at_call 32; refine (database_any _).mono ?_; rintro e w1 ⟨rfl, b1⟩; have hS2 := Lib.hid ((show Sep _ [blk w.heap.size 29 #[Value.int .i64 (t), Value.int .i64 (r)], old w] from by first | exact hS.out | exact hS.out.drew).below b1); obtain ⟨_, d0, d1, _⟩ := hS2.out.b2; clear b1))
      go_wp2_with (go_at_call 33; refine (within_any _ _).mono ?_; rintro e w2 ⟨rfl, rfl⟩)
      go_ret
      exact ⟨rfl, hS2.out.tail.gold⟩
    · have e1 := wiB_no ht
      clear hl h1 h2 ht
      have hS := Lib.hid (box1 w t r)
      obtain ⟨z, c0, c1, _⟩ := hS.out.b2
      go_enter Tryd.func28, Tryd.ntmps28
      go_wp2_with fail
      go_region_held3 (fun w' => w'.cell? ⟨w.heap.size, 0, none⟩ = some (.int .i64 t) ∧ w'.cell? ⟨w.heap.size, 1, none⟩ = some (.int .i64 r)) (exact ⟨by assumption, by assumption⟩) ((go_at_call 32; refine (database_any _).mono ?_; rintro e w1 ⟨rfl, b1⟩; have hS2 := Lib.hid ((show Sep _ [blk w.heap.size 29 #[Value.int .i64 (t), Value.int .i64 (r)], old w] from by first | exact hS.out | exact hS.out.drew).below b1); obtain ⟨_, d0, d1, _⟩ := hS2.out.b2; clear b1))
      go_wp2_with (go_at_call 33; refine (within_any _ _).mono ?_; rintro e w2 ⟨rfl, rfl⟩)
      go_ret
      exact ⟨rfl, hS2.out.tail.gold⟩
theorem check_any (t r : Int) (w : World) : Calls Tryd.prog 24 #[(.agg #[.int .i64 t, .int .i64 r])] w fun e w' => e = .returned (.int .i64 (if lv t r = -1 then 2 else 0)) ∧ Below w.heap.size w w' := by
  have hS := Lib.hid (box1 w t r)
  obtain ⟨z, c0, c1, _⟩ := hS.out.b2
  by_cases h : lv t r = -1
  · have e : (lv t r == -1) = true := by rw [h]; rfl
    rw [if_pos h]
    clear h
    go_enter Tryd.func24, Tryd.ntmps24
    go_wp2_with fail
    refine (level_any _ _ _).mono ?_
    rintro e w1 ⟨rfl, b1⟩
    replace hS := Lib.hid (hS.out.below b1)
    clear b1
    go_wp2_with fail
    go_ret
    exact ⟨rfl, hS.out.tail.gold⟩
  · have e : (lv t r == -1) = false := by rw [beq_eq_false_iff_ne]; exact h
    rw [if_neg h]
    clear h
    go_enter Tryd.func24, Tryd.ntmps24
    go_wp2_with fail
    refine (level_any _ _ _).mono ?_
    rintro e w1 ⟨rfl, b1⟩
    replace hS := Lib.hid (hS.out.below b1)
    clear b1
    go_wp2_with fail
    go_ret
    exact ⟨rfl, hS.out.tail.gold⟩
/-- The digits of a number below 100. -/
def dg (n : Nat) : List UInt8 := if n < 10 then [UInt8.ofNat (48 + n)] else [UInt8.ofNat (48 + n / 10), UInt8.ofNat (48 + n % 10)]
def dgB (n : Nat) : ByteArray := ⟨(dg n).toArray⟩
theorem ext10 (C : ByteArray) (h : ((List.range 10).all fun i => decide (C.extract i (i + 1) = dgB i)) = true) (n : Nat) (hn : n < 10) : C.extract n (n + 1) = dgB n :=
  of_decide_eq_true (List.all_eq_true.1 h n (List.mem_range.2 hn))
theorem ext100 (C : ByteArray) (h : ((List.range 100).all fun i => decide (i < 10) || decide (C.extract (i * 2) (i * 2 + 2) = dgB i)) = true) (n : Nat) (h1 : 10 ≤ n) (hn : n < 100) : C.extract (n * 2) (n * 2 + 2) = dgB n := by
  have := List.all_eq_true.1 h n (List.mem_range.2 hn)
  rw [decide_eq_false (by omega), Bool.false_or] at this
  exact of_decide_eq_true this
theorem small_any (n : Nat) (hn : n < 100) (w : World) : Calls Tryd.prog 36 #[.int .i64 n] w fun e w' => e = .returned (.string (dgB n)) ∧ w = w' := by
  have h0 : (0 : Int) ≤ (n : Int) := by omega
  have h1 : (n : Int) < 100 := by omega
  by_cases h : n < 10
  · have HC := Lib.hid (fun C hC => ext10 C hC n h)
    go_enter Tryd.func36, Tryd.ntmps36
    go_wp2
    go_ret
    exact ⟨congrArg (fun x => Ending.returned (.string x)) (HC.out _ (by kernel_rfl)), rfl⟩
  · have HC := Lib.hid (fun C hC => ext100 C hC n (by omega) hn)
    set_option maxRecDepth 100000 in
    go_enter Tryd.func36, Tryd.ntmps36
    set_option maxRecDepth 100000 in
    go_wp2
    set_option maxRecDepth 100000 in
    go_ret
    set_option maxRecDepth 100000 in
    exact ⟨congrArg (fun x => Ending.returned (.string x)) (HC.out _ (by kernel_rfl)), rfl⟩
theorem formatInt_any (n : Nat) (hn : n < 100) (w : World) : Calls Tryd.prog 35 #[.int .i64 n, .int .i64 10] w fun e w' => e = .returned (.string (dgB n)) ∧ w = w' := by
  have h0 : (0 : Int) ≤ (n : Int) := by omega
  have h1 : (n : Int) < 100 := by omega
  have H := Lib.hid (small_any n hn)
  go_enter Tryd.func35, Tryd.ntmps35
  go_wp2_with fail
  refine (H.out _).mono ?_
  rintro e w1 ⟨rfl, rfl⟩
  go_wp2_with fail
  go_ret
  exact ⟨rfl, rfl⟩
theorem itoaI_any (n : Nat) (hn : n < 100) (w : World) : Calls Tryd.prog 34 #[.int .i64 n] w fun e w' => e = .returned (.string (dgB n)) ∧ w = w' := by
  have H := Lib.hid (formatInt_any n hn)
  go_enter Tryd.func34, Tryd.ntmps34
  go_wp2_with fail
  refine (H.out _).mono ?_
  rintro e w1 ⟨rfl, rfl⟩
  go_wp2_with fail
  go_ret
  exact ⟨rfl, rfl⟩
theorem itoa_any (n : Nat) (hn : n < 100) (w : World) : Calls Tryd.prog 30 #[.int .i64 n] w fun e w' => e = .returned (.string (dgB n)) ∧ w' = w := by
  have H := Lib.hid (itoaI_any n hn)
  go_enter Tryd.func30, Tryd.ntmps30
  go_wp2_with fail
  refine (H.out _).mono ?_
  rintro e w1 ⟨rfl, rfl⟩
  go_wp2_with fail
  go_ret
  exact ⟨rfl, rfl⟩
theorem dgB_size (n : Nat) : (dgB n).size ≤ 2 := by
  show (dg n).toArray.size ≤ 2
  unfold dg
  split <;> simp
/-- A name's text. -/
def txt (t r : Int) : ByteArray := if lv t r = 0 then ⟨#[100, 98]⟩ else if lv t r = 1 then ⟨#[116]⟩ ++ dgB t.toNat else if lv t r = 2 then ⟨#[116]⟩ ++ dgB t.toNat ++ ⟨#[46, 114]⟩ ++ dgB r.toNat else ⟨#[63]⟩
set_option maxRecDepth 100000 in
theorem text_any (t r : Int) (w : World) : Calls Tryd.prog 26 #[(.agg #[.int .i64 t, .int .i64 r])] w fun e w' => e = .returned (.string (txt t r)) ∧ Below w.heap.size w w' := by
  have hS := Lib.hid (box1 w t r)
  obtain ⟨z, c0, c1, _⟩ := hS.out.b2
  rcases lv_spec t r with ⟨h1, h2, hl⟩ | ⟨h1, h2, h3, hl⟩ | ⟨h1, h2, h3, h4, hl⟩ | ⟨hl, h1, h2⟩
  · have E := Lib.hid (show txt t r = ⟨#[100, 98]⟩ by simp [txt, hl])
    have L := Lib.hid (fun W => level_any t r W)
    rw [hl] at L
    clear hl h1 h2
    go_enter Tryd.func26, Tryd.ntmps26
    go_wp2_with fail
    refine (L.out _).mono ?_
    rintro e w1 ⟨rfl, b1⟩
    replace hS := Lib.hid (hS.out.below b1)
    clear b1 c0 c1
    go_wp2_with fail
    go_ret
    exact ⟨by rw [E.out]; rfl, hS.out.tail.gold⟩
  · have E := Lib.hid (show txt t r = ⟨#[116]⟩ ++ dgB t.toNat by simp [txt, hl])
    have L := Lib.hid (fun W => level_any t r W)
    rw [hl] at L
    obtain ⟨n, rfl⟩ := Int.eq_ofNat_of_zero_le h1
    have hn : n < 100 := by omega
    have hz := dgB_size n
    have H := Lib.hid (itoa_any n hn)
    clear hl h1 h2 h3
    go_enter Tryd.func26, Tryd.ntmps26
    go_wp2_with fail
    refine (L.out _).mono ?_
    rintro e w1 ⟨rfl, b1⟩
    replace hS := Lib.hid (hS.out.below b1)
    clear b1 c0 c1
    obtain ⟨_, c0, c1, _⟩ := hS.out.b2
    go_wp2_with fail
    refine (H.out _).mono ?_
    rintro e w2 ⟨rfl, rfl⟩
    go_wp2_with fail
    go_ret
    exact ⟨by rw [E.out]; rfl, hS.out.tail.gold⟩
  · have E := Lib.hid (show txt t r = ⟨#[116]⟩ ++ dgB t.toNat ++ ⟨#[46, 114]⟩ ++ dgB r.toNat by simp [txt, hl])
    have L := Lib.hid (fun W => level_any t r W)
    rw [hl] at L
    obtain ⟨n, rfl⟩ := Int.eq_ofNat_of_zero_le h1
    obtain ⟨m, rfl⟩ := Int.eq_ofNat_of_zero_le h3
    have hn : n < 100 := by omega
    have hm : m < 100 := by omega
    have hz := dgB_size n
    have hz2 := dgB_size m
    have H := Lib.hid (itoa_any n hn)
    have H2 := Lib.hid (itoa_any m hm)
    clear hl h1 h2 h3 h4
    go_enter Tryd.func26, Tryd.ntmps26
    go_wp2_with fail
    refine (L.out _).mono ?_
    rintro e w1 ⟨rfl, b1⟩
    replace hS := Lib.hid (hS.out.below b1)
    clear b1 c0 c1
    obtain ⟨_, c0, c1, _⟩ := hS.out.b2
    go_wp2_with fail
    go_quiet (first | (go_at_call 30; with_reducible exact Calls.quiet_of_same (H.out _)) | (go_at_call 30; with_reducible exact Calls.quiet_of_same (H2.out _)))
    go_wp2_with fail
    go_ret
    exact ⟨by rw [E.out]; rfl, (hS.out.drewN _).tail.gold⟩
  · have E := Lib.hid (show txt t r = ⟨#[63]⟩ by simp [txt, hl])
    have L := Lib.hid (fun W => level_any t r W)
    rw [hl] at L
    clear hl h1 h2
    go_enter Tryd.func26, Tryd.ntmps26
    go_wp2_with fail
    refine (L.out _).mono ?_
    rintro e w1 ⟨rfl, b1⟩
    replace hS := Lib.hid (hS.out.below b1)
    clear b1 c0 c1
    go_wp2_with fail
    go_ret
    exact ⟨by rw [E.out]; rfl, hS.out.tail.gold⟩
end Go.Proofs.YtgbffkjfjkfiaaaDoor
