/-
  The contracts of the functions of package mode over modes as numbers. No condition.
-/
import Derived.Test.YtmacpjnkmkaloaaQBase
import Derived.Deep.WholeRow
namespace Go.Proofs.Ytmacpjnkmkaloaa
open Go.RowKit
theorem wpList_store_new {P : Program} {ops : Array Oper} {rest : List Oper} {o : Oper} {a : Act} {w0 : World} {Q : Exit → Act → World → Prop} (hgd : o.guard = none) (ty : TypeId) (x y : Operand) (ho : o.op = .store ty x y)
    (c c' : Array Value) (hx : a.eval x = .pointer (some ⟨w0.heap.size, 0, none⟩)) (hy : a.eval y = .agg c')
    (hi : (P.info? ty).map (·.size) = some c'.size) (hs : c.size = c'.size) (h1 : c'.all (·.oneCell') = true)
    (h : wpList P ops Q rest (a.put o.dst undef) (w0.alloc (.cells c' ty))) : wpList P ops Q (o :: rest) a (w0.alloc (.cells c ty)) :=
  wpList_plain hgd fun K hK => by
    have hr := run_storeAt_new (P := P) w0 ty c c' hi hs h1
    unfold Oper.wp execOp
    simp only [ho, hx, hy, Sem.run_bind, Sem.run_pure, Result.andThen_ok, hr]
    exact hK _ _ h
def covArr : Array Value := #[.int .i64 1, .int .i64 0, .int .i64 0, .int .i64 0, .int .i64 0, .int .i64 0, .int .i64 0,
  .int .i64 1, .int .i64 1, .int .i64 0, .int .i64 0, .int .i64 0, .int .i64 0, .int .i64 0,
  .int .i64 1, .int .i64 1, .int .i64 1, .int .i64 0, .int .i64 0, .int .i64 0, .int .i64 0,
  .int .i64 1, .int .i64 1, .int .i64 0, .int .i64 1, .int .i64 0, .int .i64 0, .int .i64 0,
  .int .i64 1, .int .i64 1, .int .i64 1, .int .i64 1, .int .i64 1, .int .i64 0, .int .i64 0,
  .int .i64 1, .int .i64 1, .int .i64 0, .int .i64 1, .int .i64 0, .int .i64 1, .int .i64 0,
  .int .i64 1, .int .i64 1, .int .i64 1, .int .i64 1, .int .i64 1, .int .i64 1, .int .i64 1]
def comArr : Array Value := #[.int .i64 1, .int .i64 1, .int .i64 1, .int .i64 1, .int .i64 1, .int .i64 1, .int .i64 1,
  .int .i64 1, .int .i64 1, .int .i64 1, .int .i64 1, .int .i64 1, .int .i64 1, .int .i64 0,
  .int .i64 1, .int .i64 1, .int .i64 1, .int .i64 0, .int .i64 0, .int .i64 0, .int .i64 0,
  .int .i64 1, .int .i64 1, .int .i64 0, .int .i64 1, .int .i64 0, .int .i64 1, .int .i64 0,
  .int .i64 1, .int .i64 1, .int .i64 0, .int .i64 0, .int .i64 0, .int .i64 0, .int .i64 0,
  .int .i64 1, .int .i64 1, .int .i64 0, .int .i64 1, .int .i64 0, .int .i64 0, .int .i64 0,
  .int .i64 1, .int .i64 0, .int .i64 0, .int .i64 0, .int .i64 0, .int .i64 0, .int .i64 0]
theorem size43 : (Try.prog.info? 96).map (·.size) = some 49 := by kernel_rfl
theorem cov_one : covArr.all (·.oneCell') = true := by simp [covArr, Value.oneCell']
theorem com_one : comArr.all (·.oneCell') = true := by simp [comArr, Value.oneCell']
theorem cov_size : 49 = covArr.size := by simp [covArr]
theorem com_size : 49 = comArr.size := by simp [comArr]
set_option maxRecDepth 100000 in
theorem covers_t (w : World) : Calls Try.prog 86 #[] w fun e w' => e = .returned (.agg covArr) ∧ w' = w.alloc (.cells covArr 96) := by
  go_enter Try.func86, Try.ntmps86
  go_wp2_with (refine wpList_store_new rfl 96 _ _ rfl _ covArr rfl rfl (by rw [← cov_size]; exact size43) (by rw [← cov_size]; simp) cov_one ?_)
  refine bodyPost_ret (results_cell_row rfl _ _ w.heap.size 96 covArr (0, 0) _ rfl (heap_alloc_new w _) Try.underlying96 rfl (by rw [← cov_size]; exact size43)) rfl ⟨rfl, rfl⟩
set_option maxRecDepth 100000 in
theorem compat_t (w : World) : Calls Try.prog 84 #[] w fun e w' => e = .returned (.agg comArr) ∧ w' = w.alloc (.cells comArr 96) := by
  go_enter Try.func84, Try.ntmps84
  go_wp2_with (refine wpList_store_new rfl 96 _ _ rfl _ comArr rfl rfl (by rw [← com_size]; exact size43) (by rw [← com_size]; simp) com_one ?_)
  refine bodyPost_ret (results_cell_row rfl _ _ w.heap.size 96 comArr (0, 0) _ rfl (heap_alloc_new w _) Try.underlying96 rfl (by rw [← com_size]; exact size43)) rfl ⟨rfl, rfl⟩

def knownB (m : Int) : Bool := decide (0 ≤ m ∧ m ≤ 6)
theorem known_any (m : Int) (w : World) : Calls Try.prog 79 #[.int .i64 m] w fun e w' => e = .returned (.bool (knownB m)) ∧ w = w' := by
  unfold knownB
  by_cases h1 : 0 ≤ m
  · by_cases h2 : m ≤ 6
    · rw [show decide (0 ≤ m ∧ m ≤ 6) = true by simp [h1, h2]]
      go_enter Try.func79, Try.ntmps79
      go_wp2
      go_ret
      exact ⟨rfl, rfl⟩
    · rw [show decide (0 ≤ m ∧ m ≤ 6) = false by simp [h2]]
      go_enter Try.func79, Try.ntmps79
      go_wp2
      go_ret
      exact ⟨rfl, rfl⟩
  · rw [show decide (0 ≤ m ∧ m ≤ 6) = false by simp [h1]]
    go_enter Try.func79, Try.ntmps79
    go_wp2
    go_ret
    exact ⟨rfl, rfl⟩
theorem known_nat {m : Int} (h : knownB m = true) : ∃ k : Nat, m = k ∧ k < 7 := by
  simp [knownB] at h
  obtain ⟨k, rfl⟩ := Int.eq_ofNat_of_zero_le h.1
  exact ⟨k, rfl, by omega⟩
def cellB (arr : Array Value) (i : Nat) : Bool := match arr[i]? with | some (.int _ n) => n == 1 | _ => false
def tabB (arr : Array Value) (a b : Int) : Bool := knownB a && knownB b && cellB arr (a.toNat * 7 + b.toNat)

theorem is_any (cs : Array Value) (hcs : ∀ i, i < 49 → ∃ n, cs[i]? = some (.int .i64 n)) (a b : Int) (w : World) :
    Calls Try.prog 85 #[.agg cs, .int .i64 a, .int .i64 b] w fun e w' => e = .returned (.bool (tabB cs a b)) ∧ w' = w.alloc (.cells cs 96) := by
  have Ka := Lib.hid (fun W => known_any a W)
  have Kb := Lib.hid (fun W => known_any b W)
  cases ha : knownB a with
  | false =>
    rw [show tabB cs a b = false by simp [tabB, ha]]
    clear hcs
    go_enter Try.func85, Try.ntmps85
    go_wp2_with (go_at_call 79; refine (Ka.out _).mono ?_; rintro e w' ⟨rfl, rfl⟩)
    go_ret
    exact ⟨rfl, rfl⟩
  | true =>
    cases hb : knownB b with
    | false =>
      rw [show tabB cs a b = false by simp [tabB, hb]]
      clear hcs
      go_enter Try.func85, Try.ntmps85
      go_wp2_with fail
      refine (Ka.out _).mono ?_
      rintro e w' ⟨rfl, rfl⟩
      go_wp2_with fail
      refine (Kb.out _).mono ?_
      rintro e w' ⟨rfl, rfl⟩
      go_wp2_with fail
      go_ret
      exact ⟨rfl, rfl⟩
    | true =>
      obtain ⟨i, rfl, hi⟩ := known_nat ha
      obtain ⟨j, rfl, hj⟩ := known_nat hb
      obtain ⟨n, hn⟩ := hcs (i * 7 + j) (by omega)
      have e := Lib.hid (show tabB cs i j = (n == 1) by simp [tabB, ha, hb, cellB, hn])
      clear hcs
      by_cases h1 : n = 1
      · have h1' : (n == 1) = true := by simpa using h1
        clear h1
        go_enter Try.func85, Try.ntmps85
        go_wp2_with fail
        refine (Ka.out _).mono ?_
        rintro e w' ⟨rfl, rfl⟩
        go_wp2_with fail
        refine (Kb.out _).mono ?_
        rintro e w' ⟨rfl, rfl⟩
        go_wp2_with fail
        go_ret
        exact ⟨by rw [e.out, h1']; rfl, rfl⟩
      · have h1' : (n == 1) = false := by simpa using h1
        clear h1
        go_enter Try.func85, Try.ntmps85
        go_wp2_with fail
        refine (Ka.out _).mono ?_
        rintro e w' ⟨rfl, rfl⟩
        go_wp2_with fail
        refine (Kb.out _).mono ?_
        rintro e w' ⟨rfl, rfl⟩
        go_wp2_with fail
        go_ret
        exact ⟨by rw [e.out, h1']; rfl, rfl⟩
theorem covArr_ints : ∀ i, i < 49 → ∃ n, covArr[i]? = some (.int .i64 n) := by
  intro i hi
  have : ∀ i : Fin 49, (match covArr[i.val]? with | some (.int .i64 _) => true | _ => false) = true := by decide
  have h := this ⟨i, hi⟩
  dsimp only at h
  split at h
  · rename_i n hn; exact ⟨n, hn⟩
  · cases h
theorem comArr_ints : ∀ i, i < 49 → ∃ n, comArr[i]? = some (.int .i64 n) := by
  intro i hi
  have : ∀ i : Fin 49, (match comArr[i.val]? with | some (.int .i64 _) => true | _ => false) = true := by decide
  have h := this ⟨i, hi⟩
  dsimp only at h
  split at h
  · rename_i n hn; exact ⟨n, hn⟩
  · cases h
theorem below_alloc (w : World) (o : Obj) : Below w.heap.size w (w.alloc o) := (Below.refl _ _).alloc (Nat.le_refl _) _
theorem below_alloc2 (w : World) (o o' : Obj) : Below w.heap.size w ((w.alloc o).alloc o') := (below_alloc w o).alloc (by simp) _
def covB (a b : Int) : Bool := tabB covArr a b
def comB (a b : Int) : Bool := tabB comArr a b
theorem covers_any (a b : Int) (w : World) : Calls Try.prog 80 #[.int .i64 a, .int .i64 b] w fun e w' => e = .returned (.bool (covB a b)) ∧ Below w.heap.size w w' := by
  have HC := Lib.hid (covers_t w)
  have HI := Lib.hid (fun W => is_any covArr covArr_ints a b W)
  have hb := Lib.hid (below_alloc2 w (.cells covArr 96) (.cells covArr 96))
  go_enter Try.func80, Try.ntmps80
  go_wp2_with fail
  refine HC.out.mono ?_
  rintro e w' ⟨rfl, rfl⟩
  go_wp2_with fail
  refine (HI.out _).mono ?_
  rintro e w' ⟨rfl, rfl⟩
  go_wp2_with fail
  go_ret
  exact ⟨rfl, hb.out⟩
theorem compat_any (a b : Int) (w : World) : Calls Try.prog 74 #[.int .i64 a, .int .i64 b] w fun e w' => e = .returned (.bool (comB a b)) ∧ Below w.heap.size w w' := by
  have HC := Lib.hid (compat_t w)
  have HI := Lib.hid (fun W => is_any comArr comArr_ints a b W)
  have hb := Lib.hid (below_alloc2 w (.cells comArr 96) (.cells comArr 96))
  go_enter Try.func74, Try.ntmps74
  go_wp2_with fail
  refine HC.out.mono ?_
  rintro e w' ⟨rfl, rfl⟩
  go_wp2_with fail
  refine (HI.out _).mono ?_
  rintro e w' ⟨rfl, rfl⟩
  go_wp2_with fail
  go_ret
  exact ⟨rfl, hb.out⟩
def supV (a b : Int) : Int := if knownB a = false ∨ knownB b = false then 0 else if covB a b = true then a else if covB b a = true then b else if covB 4 a = true ∧ covB 4 b = true then 4 else 6
theorem sup_any (a b : Int) (w : World) : Calls Try.prog 68 #[.int .i64 a, .int .i64 b] w fun e w' => e = .returned (.int .i64 (supV a b)) ∧ Below w.heap.size w w' := by
  have bel := Lib.hid (Below.refl w.heap.size w)
  cases ha : knownB a with
  | false =>
    rw [show supV a b = 0 by simp [supV, ha]]
    go_enter Try.func68, Try.ntmps68
    go_wp2_with (go_at_call 79; refine (known_any _ _).mono ?_; rintro e w' ⟨rfl, rfl⟩)
    go_ret
    exact ⟨rfl, bel.out⟩
  | true =>
    cases hb : knownB b with
    | false =>
      rw [show supV a b = 0 by simp [supV, hb]]
      go_enter Try.func68, Try.ntmps68
      go_wp2_with (go_at_call 79; refine (known_any _ _).mono ?_; rintro e w' ⟨rfl, rfl⟩)
      go_ret
      exact ⟨rfl, bel.out⟩
    | true =>
      have es : supV a b = if covB a b = true then a else if covB b a = true then b else if covB 4 a = true ∧ covB 4 b = true then 4 else 6 := by simp [supV, ha, hb]
      rw [es]
      clear es
      cases h1 : covB a b with
      | true =>
        go_enter Try.func68, Try.ntmps68
        go_wp2_with (first | (go_at_call 79; refine (known_any _ _).mono ?_; rintro e w' ⟨rfl, rfl⟩) | (go_at_call 80; refine (covers_any _ _ _).mono ?_; rintro e w' ⟨rfl, b'⟩; replace bel := Lib.hid (belT bel.out b'); clear b'))
        go_ret
        exact ⟨rfl, bel.out⟩
      | false =>
        cases h2 : covB b a with
        | true =>
          go_enter Try.func68, Try.ntmps68
          go_wp2_with (first | (go_at_call 79; refine (known_any _ _).mono ?_; rintro e w' ⟨rfl, rfl⟩) | (go_at_call 80; refine (covers_any _ _ _).mono ?_; rintro e w' ⟨rfl, b'⟩; replace bel := Lib.hid (belT bel.out b'); clear b'))
          go_ret
          exact ⟨rfl, bel.out⟩
        | false =>
          cases h3 : covB 4 a with
          | false =>
            go_enter Try.func68, Try.ntmps68
            go_wp2_with (first | (go_at_call 79; refine (known_any _ _).mono ?_; rintro e w' ⟨rfl, rfl⟩) | (go_at_call 80; refine (covers_any _ _ _).mono ?_; rintro e w' ⟨rfl, b'⟩; replace bel := Lib.hid (belT bel.out b'); clear b'))
            go_ret
            exact ⟨rfl, bel.out⟩
          | true =>
            cases h4 : covB 4 b
            all_goals
              go_enter Try.func68, Try.ntmps68
              go_wp2_with (first | (go_at_call 79; refine (known_any _ _).mono ?_; rintro e w' ⟨rfl, rfl⟩) | (go_at_call 80; refine (covers_any _ _ _).mono ?_; rintro e w' ⟨rfl, b'⟩; replace bel := Lib.hid (belT bel.out b'); clear b'))
              go_ret
              exact ⟨rfl, bel.out⟩
end Go.Proofs.Ytmacpjnkmkaloaa
