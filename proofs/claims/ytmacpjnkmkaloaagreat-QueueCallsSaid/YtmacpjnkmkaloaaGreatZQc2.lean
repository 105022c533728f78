/-
  Contracts and plain laws that the walk leans on, part 2. No condition.
-/
import Derived.Test.YtmacpjnkmkaloaaGreatZQc1
import Derived.Deep.WholeRow
import Derived.Deep.RegionWith
import Derived.Deep.RegionHeld3
import Derived.Deep.LoopGhost
import Derived.Deep.DeepCutAuto
import Derived.Shelf.SlicesE.IndexFunc
namespace Go.Proofs.YtmacpjnkmkaloaaGreat
set_option linter.unusedSimpArgs false
set_option linter.unusedVariables false
set_option linter.unnecessarySimpa false
open Go.RowKit
theorem wpList_store_new {P : Program} {ops : Array Oper} {rest : List Oper} {o : Oper} {a : Act} {w0 : World} {Q : Exit → Act → World → Prop} (hgd : o.guard = none) (ty : TypeId) (x y : Operand) (ho : o.op = .store ty x y)
    (c c' : Array Value) (hx : a.eval x = .pointer (some ⟨w0.heap.size, 0, none⟩)) (hy : a.eval y = .agg c')
    (hi : (P.info? ty).map (·.size) = some c'.size) (hs : c.size = c'.size) (h1 : c'.all (·.oneCell') = true)
    (h : wpList P ops Q rest (a.put o.dst undef) (w0.alloc (.cells c' ty))) : wpList P ops Q (o :: rest) a (w0.alloc (.cells c ty)) :=
  wpList_plain hgd fun K hK => by
    have hr := run_storeAt_new (P := P) w0 ty c c' hi hs h1
    unfold Oper.wp execOp
    simp only [ho, hx, hy, Sem.run_bind, Sem.run_pure, Result.andThen_ok, hr]
    exact hK _ _ h
def covArr : Array Value := #[.int .i64 1, .int .i64 0, .int .i64 0, .int .i64 0, .int .i64 0, .int .i64 0, .int .i64 0,
  .int .i64 1, .int .i64 1, .int .i64 0, .int .i64 0, .int .i64 0, .int .i64 0, .int .i64 0,
  .int .i64 1, .int .i64 1, .int .i64 1, .int .i64 0, .int .i64 0, .int .i64 0, .int .i64 0,
  .int .i64 1, .int .i64 1, .int .i64 0, .int .i64 1, .int .i64 0, .int .i64 0, .int .i64 0,
  .int .i64 1, .int .i64 1, .int .i64 1, .int .i64 1, .int .i64 1, .int .i64 0, .int .i64 0,
  .int .i64 1, .int .i64 1, .int .i64 0, .int .i64 1, .int .i64 0, .int .i64 1, .int .i64 0,
  .int .i64 1, .int .i64 1, .int .i64 1, .int .i64 1, .int .i64 1, .int .i64 1, .int .i64 1]
def comArr : Array Value := #[.int .i64 1, .int .i64 1, .int .i64 1, .int .i64 1, .int .i64 1, .int .i64 1, .int .i64 1,
  .int .i64 1, .int .i64 1, .int .i64 1, .int .i64 1, .int .i64 1, .int .i64 1, .int .i64 0,
  .int .i64 1, .int .i64 1, .int .i64 1, .int .i64 0, .int .i64 0, .int .i64 0, .int .i64 0,
  .int .i64 1, .int .i64 1, .int .i64 0, .int .i64 1, .int .i64 0, .int .i64 1, .int .i64 0,
  .int .i64 1, .int .i64 1, .int .i64 0, .int .i64 0, .int .i64 0, .int .i64 0, .int .i64 0,
  .int .i64 1, .int .i64 1, .int .i64 0, .int .i64 1, .int .i64 0, .int .i64 0, .int .i64 0,
  .int .i64 1, .int .i64 0, .int .i64 0, .int .i64 0, .int .i64 0, .int .i64 0, .int .i64 0]
theorem size43 : (Tryz.prog.info? 91).map (·.size) = some 49 := by kernel_rfl
theorem cov_one : covArr.all (·.oneCell') = true := by simp [covArr, Value.oneCell']
theorem com_one : comArr.all (·.oneCell') = true := by simp [comArr, Value.oneCell']
theorem cov_size : 49 = covArr.size := by simp [covArr]
theorem com_size : 49 = comArr.size := by simp [comArr]
set_option maxRecDepth 100000 in
theorem covers_t (w : World) : Calls Tryz.prog 89 #[] w fun e w' => e = .returned (.agg covArr) ∧ w' = w.alloc (.cells covArr 91) := by
  go_enter Tryz.func89, Tryz.ntmps89
  go_wp2_with (refine wpList_store_new rfl 91 _ _ rfl _ covArr rfl rfl (by rw [← cov_size]; exact size43) (by rw [← cov_size]; simp) cov_one ?_)
  refine bodyPost_ret (results_cell_row rfl _ _ w.heap.size 91 covArr (0, 0) _ rfl (heap_alloc_new w _) Tryz.underlying91 rfl (by rw [← cov_size]; exact size43)) rfl ⟨rfl, rfl⟩
set_option maxRecDepth 100000 in
theorem compat_t (w : World) : Calls Tryz.prog 87 #[] w fun e w' => e = .returned (.agg comArr) ∧ w' = w.alloc (.cells comArr 91) := by
  go_enter Tryz.func87, Tryz.ntmps87
  go_wp2_with (refine wpList_store_new rfl 91 _ _ rfl _ comArr rfl rfl (by rw [← com_size]; exact size43) (by rw [← com_size]; simp) com_one ?_)
  refine bodyPost_ret (results_cell_row rfl _ _ w.heap.size 91 comArr (0, 0) _ rfl (heap_alloc_new w _) Tryz.underlying91 rfl (by rw [← com_size]; exact size43)) rfl ⟨rfl, rfl⟩

def knownB (m : Int) : Bool := decide (0 ≤ m ∧ m ≤ 6)
theorem known_any (m : Int) (w : World) : Calls Tryz.prog 73 #[.int .i64 m] w fun e w' => e = .returned (.bool (knownB m)) ∧ w = w' := by
  unfold knownB
  by_cases h1 : 0 ≤ m
  · by_cases h2 : m ≤ 6
    · rw [show decide (0 ≤ m ∧ m ≤ 6) = true by simp [h1, h2]]
      go_enter Tryz.func73, Tryz.ntmps73
      go_wp2
      go_ret
      exact ⟨rfl, rfl⟩
    · rw [show decide (0 ≤ m ∧ m ≤ 6) = false by simp [h2]]
      go_enter Tryz.func73, Tryz.ntmps73
      go_wp2
      go_ret
      exact ⟨rfl, rfl⟩
  · rw [show decide (0 ≤ m ∧ m ≤ 6) = false by simp [h1]]
    go_enter Tryz.func73, Tryz.ntmps73
    go_wp2
    go_ret
    exact ⟨rfl, rfl⟩
theorem known_nat {m : Int} (h : knownB m = true) : ∃ k : Nat, m = k ∧ k < 7 := by
  simp [knownB] at h
  obtain ⟨k, rfl⟩ := Int.eq_ofNat_of_zero_le h.1
  exact ⟨k, rfl, by omega⟩
def cellB (arr : Array Value) (i : Nat) : Bool := match arr[i]? with | some (.int _ n) => n == 1 | _ => false
def tabB (arr : Array Value) (a b : Int) : Bool := knownB a && knownB b && cellB arr (a.toNat * 7 + b.toNat)

theorem is_any (cs : Array Value) (hcs : ∀ i, i < 49 → ∃ n, cs[i]? = some (.int .i64 n)) (a b : Int) (w : World) :
    Calls Tryz.prog 88 #[.agg cs, .int .i64 a, .int .i64 b] w fun e w' => e = .returned (.bool (tabB cs a b)) ∧ w' = w.alloc (.cells cs 91) := by
  have Ka := Lib.hid (fun W => known_any a W)
  have Kb := Lib.hid (fun W => known_any b W)
  cases ha : knownB a with
  | false =>
    rw [show tabB cs a b = false by simp [tabB, ha]]
    clear hcs
    go_enter Tryz.func88, Tryz.ntmps88
    go_wp2_with (go_at_call 73; refine (Ka.out _).mono ?_; rintro e w' ⟨rfl, rfl⟩)
    go_ret
    exact ⟨rfl, rfl⟩
  | true =>
    cases hb : knownB b with
    | false =>
      rw [show tabB cs a b = false by simp [tabB, hb]]
      clear hcs
      go_enter Tryz.func88, Tryz.ntmps88
      go_wp2_with fail
      refine (Ka.out _).mono ?_
      rintro e w' ⟨rfl, rfl⟩
      go_wp2_with fail
      refine (Kb.out _).mono ?_
      rintro e w' ⟨rfl, rfl⟩
      go_wp2_with fail
      go_ret
      exact ⟨rfl, rfl⟩
    | true =>
      obtain ⟨i, rfl, hi⟩ := known_nat ha
      obtain ⟨j, rfl, hj⟩ := known_nat hb
      obtain ⟨n, hn⟩ := hcs (i * 7 + j) (by omega)
      have e := Lib.hid (show tabB cs i j = (n == 1) by simp [tabB, ha, hb, cellB, hn])
      clear hcs
      by_cases h1 : n = 1
      · have h1' : (n == 1) = true := by simpa using h1
        clear h1
        go_enter Tryz.func88, Tryz.ntmps88
        go_wp2_with fail
        refine (Ka.out _).mono ?_
        rintro e w' ⟨rfl, rfl⟩
        go_wp2_with fail
        refine (Kb.out _).mono ?_
        rintro e w' ⟨rfl, rfl⟩
        go_wp2_with fail
        go_ret
        exact ⟨by rw [e.out, h1']; rfl, rfl⟩
      · have h1' : (n == 1) = false := by simpa using h1
        clear h1
        go_enter Tryz.func88, Tryz.ntmps88
        go_wp2_with fail
        refine (Ka.out _).mono ?_
        rintro e w' ⟨rfl, rfl⟩
        go_wp2_with fail
        refine (Kb.out _).mono ?_
        rintro e w' ⟨rfl, rfl⟩
        go_wp2_with fail
        go_ret
        exact ⟨by rw [e.out, h1']; rfl, rfl⟩
theorem covArr_ints : ∀ i, i < 49 → ∃ n, covArr[i]? = some (.int .i64 n) := by
  intro i hi
  have : ∀ i : Fin 49, (match covArr[i.val]? with | some (.int .i64 _) => true | _ => false) = true := by decide
  have h := this ⟨i, hi⟩
  dsimp only at h
  split at h
  · rename_i n hn; exact ⟨n, hn⟩
  · cases h
theorem comArr_ints : ∀ i, i < 49 → ∃ n, comArr[i]? = some (.int .i64 n) := by
  intro i hi
  have : ∀ i : Fin 49, (match comArr[i.val]? with | some (.int .i64 _) => true | _ => false) = true := by decide
  have h := this ⟨i, hi⟩
  dsimp only at h
  split at h
  · rename_i n hn; exact ⟨n, hn⟩
  · cases h
theorem below_alloc (w : World) (o : Obj) : Below w.heap.size w (w.alloc o) := (Below.refl _ _).alloc (Nat.le_refl _) _
theorem below_alloc2 (w : World) (o o' : Obj) : Below w.heap.size w ((w.alloc o).alloc o') := (below_alloc w o).alloc (by simp) _
def covB (a b : Int) : Bool := tabB covArr a b
def comB (a b : Int) : Bool := tabB comArr a b
theorem covers_any (a b : Int) (w : World) : Calls Tryz.prog 74 #[.int .i64 a, .int .i64 b] w fun e w' => e = .returned (.bool (covB a b)) ∧ Below w.heap.size w w' := by
  have HC := Lib.hid (covers_t w)
  have HI := Lib.hid (fun W => is_any covArr covArr_ints a b W)
  have hb := Lib.hid (below_alloc2 w (.cells covArr 91) (.cells covArr 91))
  go_enter Tryz.func74, Tryz.ntmps74
  go_wp2_with fail
  refine HC.out.mono ?_
  rintro e w' ⟨rfl, rfl⟩
  go_wp2_with fail
  refine (HI.out _).mono ?_
  rintro e w' ⟨rfl, rfl⟩
  go_wp2_with fail
  go_ret
  exact ⟨rfl, hb.out⟩
theorem compat_any (a b : Int) (w : World) : Calls Tryz.prog 72 #[.int .i64 a, .int .i64 b] w fun e w' => e = .returned (.bool (comB a b)) ∧ Below w.heap.size w w' := by
  have HC := Lib.hid (compat_t w)
  have HI := Lib.hid (fun W => is_any comArr comArr_ints a b W)
  have hb := Lib.hid (below_alloc2 w (.cells comArr 91) (.cells comArr 91))
  go_enter Tryz.func72, Tryz.ntmps72
  go_wp2_with fail
  refine HC.out.mono ?_
  rintro e w' ⟨rfl, rfl⟩
  go_wp2_with fail
  refine (HI.out _).mono ?_
  rintro e w' ⟨rfl, rfl⟩
  go_wp2_with fail
  go_ret
  exact ⟨rfl, hb.out⟩
def supV (a b : Int) : Int := if knownB a = false ∨ knownB b = false then 0 else if covB a b = true then a else if covB b a = true then b else if covB 4 a = true ∧ covB 4 b = true then 4 else 6
theorem sup_any (a b : Int) (w : World) : Calls Tryz.prog 54 #[.int .i64 a, .int .i64 b] w fun e w' => e = .returned (.int .i64 (supV a b)) ∧ Below w.heap.size w w' := by
  have bel := Lib.hid (Below.refl w.heap.size w)
  cases ha : knownB a with
  | false =>
    rw [show supV a b = 0 by simp [supV, ha]]
    go_enter Tryz.func54, Tryz.ntmps54
    go_wp2_with (go_at_call 73; refine (known_any _ _).mono ?_; rintro e w' ⟨rfl, rfl⟩)
    go_ret
    exact ⟨rfl, bel.out⟩
  | true =>
    cases hb : knownB b with
    | false =>
      rw [show supV a b = 0 by simp [supV, hb]]
      go_enter Tryz.func54, Tryz.ntmps54
      go_wp2_with (go_at_call 73; refine (known_any _ _).mono ?_; rintro e w' ⟨rfl, rfl⟩)
      go_ret
      exact ⟨rfl, bel.out⟩
    | true =>
      have es : supV a b = if covB a b = true then a else if covB b a = true then b else if covB 4 a = true ∧ covB 4 b = true then 4 else 6 := by simp [supV, ha, hb]
      rw [es]
      clear es
      cases h1 : covB a b with
      | true =>
        go_enter Tryz.func54, Tryz.ntmps54
        go_wp2_with (first | (go_at_call 73; refine (known_any _ _).mono ?_; rintro e w' ⟨rfl, rfl⟩) | (go_at_call 74; refine (covers_any _ _ _).mono ?_; rintro e w' ⟨rfl, b'⟩; replace bel := Lib.hid (belT bel.out b'); clear b'))
        go_ret
        exact ⟨rfl, bel.out⟩
      | false =>
        cases h2 : covB b a with
        | true =>
          go_enter Tryz.func54, Tryz.ntmps54
          go_wp2_with (first | (go_at_call 73; refine (known_any _ _).mono ?_; rintro e w' ⟨rfl, rfl⟩) | (go_at_call 74; refine (covers_any _ _ _).mono ?_; rintro e w' ⟨rfl, b'⟩; replace bel := Lib.hid (belT bel.out b'); clear b'))
          go_ret
          exact ⟨rfl, bel.out⟩
        | false =>
          cases h3 : covB 4 a with
          | false =>
            go_enter Tryz.func54, Tryz.ntmps54
            go_wp2_with (first | (go_at_call 73; refine (known_any _ _).mono ?_; rintro e w' ⟨rfl, rfl⟩) | (go_at_call 74; refine (covers_any _ _ _).mono ?_; rintro e w' ⟨rfl, b'⟩; replace bel := Lib.hid (belT bel.out b'); clear b'))
            go_ret
            exact ⟨rfl, bel.out⟩
          | true =>
            cases h4 : covB 4 b
            all_goals
              go_enter Tryz.func54, Tryz.ntmps54
              go_wp2_with (first | (go_at_call 73; refine (known_any _ _).mono ?_; rintro e w' ⟨rfl, rfl⟩) | (go_at_call 74; refine (covers_any _ _ _).mono ?_; rintro e w' ⟨rfl, b'⟩; replace bel := Lib.hid (belT bel.out b'); clear b'))
              go_ret
              exact ⟨rfl, bel.out⟩
end Go.Proofs.YtmacpjnkmkaloaaGreat
namespace Go.Proofs.YtmacpjnkmkaloaaGreat
set_option linter.unusedSimpArgs false
set_option linter.unusedVariables false
set_option linter.unnecessarySimpa false
open Go.RowKit
theorem reg_skip {P : Program} {md : Region.Mode} {ops : Array Oper} {Q : Exit → Act → World → Prop} (i : Nat) {oi : Oper} {fuel : Nat} {listed : Array Bool} {a : Act} {w : World} (hi : ops[i]? = some oi)
    (hs : Region.noSelect ops = true) (hf : Region.free md ops listed i = true) (hr : (Region.ready md ops listed).contains i = true)
    (hQ : ∀ c t t' d w, Q (.panic c) ⟨t, d⟩ w → Q (.panic c) ⟨t', d⟩ w) (hw : Region.wanted oi (yielded ops a.tmps) = false)
    (h : wpAny P md ops Q fuel (listed.setIfInBounds i true) (a.put oi.dst undef) w) : wpAny P md ops Q (fuel + 1) listed a w :=
  wpAny_take hi hs hf hr (fun c a w h => by obtain ⟨t, d⟩ := a; cases hd : oi.dst with
    | none => rw [hd] at h; exact h
    | some k => rw [hd] at h; exact hQ c _ t d w h) (.inr ⟨hw, rfl⟩) h
theorem reg_take {P : Program} {md : Region.Mode} {ops : Array Oper} {Q : Exit → Act → World → Prop} (i : Nat) (v : Value) {oi : Oper} {fuel : Nat} {listed : Array Bool} {a : Act} {w : World} (hi : ops[i]? = some oi)
    (hs : Region.noSelect ops = true) (hf : Region.free md ops listed i = true) (hr : (Region.ready md ops listed).contains i = true)
    (hQ : ∀ c t t' d w, Q (.panic c) ⟨t, d⟩ w → Q (.panic c) ⟨t', d⟩ w) (hw : Region.wanted oi (yielded ops a.tmps) = true)
    (hy : ∀ w, (execOp a.eval oi).run P w = .ok (.value v) w)
    (h : wpAny P md ops Q fuel (listed.setIfInBounds i true) (a.put oi.dst v) w) : wpAny P md ops Q (fuel + 1) listed a w :=
  wpAny_take hi hs hf hr (fun c a w h => by obtain ⟨t, d⟩ := a; cases hd : oi.dst with
    | none => rw [hd] at h; exact h
    | some k => rw [hd] at h; exact hQ c _ t d w h) (.inl ⟨hw, hy⟩) h
end Go.Proofs.YtmacpjnkmkaloaaGreat
namespace Go.Proofs.YtmacpjnkmkaloaaGreat
set_option linter.unusedSimpArgs false
set_option linter.unusedVariables false
set_option linter.unnecessarySimpa false
open Go.RowKit

/-- The closures. -/
theorem first1 (w : World) : PredQ 79 #[] (fun r => r.mode == 0) w := fun W r hb => by
  have H := Lib.hid (fun w => holds_any r w)
  obtain ⟨id, txn, mode, want, since⟩ := r
  unfold Rq.val at *
  show Calls Tryz.prog 79 #[.agg #[.int .i64 id, .int .i64 txn, .int .i64 mode, .int .i64 want, .int .i64 since]] W _
  go_enter Tryz.func79, Tryz.ntmps79
  go_wp2_with fail
  refine (H.out _).mono ?_
  rintro e w1 ⟨rfl, b1⟩
  replace b1 := Lib.hid b1
  go_wp2_with fail
  go_ret
  exact ⟨by simp [bne], belA _ b1.out⟩
theorem place1 (id0 : Int) (B : Nat) (w : World) (hB : B < w.heap.size) (hc : w.cell? ⟨B, 0, none⟩ = some (.int .i64 id0)) : PredQ 81 #[.pointer (some ⟨B, 0, none⟩)] (fun r => r.id == id0) w := fun W r hb => by
  have c := (hb.cell (p := ⟨B, 0, none⟩) hB).trans hc
  have hs := hb.size
  have hl := Nat.lt_of_lt_of_le hB hs
  obtain ⟨id, txn, mode, want, since⟩ := r
  show Calls Tryz.prog 81 #[.agg #[.int .i64 id, .int .i64 txn, .int .i64 mode, .int .i64 want, .int .i64 since], .pointer (some ⟨B, 0, none⟩)] W _
  clear hb hc
  go_enter Tryz.func81, Tryz.ntmps81
  go_wp2
  go_ret
  exact ⟨rfl, (Below.refl _ _).alloc (Nat.le_refl _) _⟩
theorem without1 (id0 : Int) (B : Nat) (w : World) (hB : B < w.heap.size) (hc : w.cell? ⟨B, 0, none⟩ = some (.int .i64 id0)) : PredQ 83 #[.pointer (some ⟨B, 0, none⟩)] (fun r => r.id == id0) w := fun W r hb => by
  have c := (hb.cell (p := ⟨B, 0, none⟩) hB).trans hc
  have hs := hb.size
  have hl := Nat.lt_of_lt_of_le hB hs
  obtain ⟨id, txn, mode, want, since⟩ := r
  show Calls Tryz.prog 83 #[.agg #[.int .i64 id, .int .i64 txn, .int .i64 mode, .int .i64 want, .int .i64 since], .pointer (some ⟨B, 0, none⟩)] W _
  clear hb hc
  go_enter Tryz.func83, Tryz.ntmps83
  go_wp2
  go_ret
  exact ⟨rfl, (Below.refl _ _).alloc (Nat.le_refl _) _⟩
theorem mode1 (t0 : Int) (B : Nat) (w : World) (hB : B < w.heap.size) (hc : w.cell? ⟨B, 0, none⟩ = some (.int .i64 t0)) : PredQ 63 #[.pointer (some ⟨B, 0, none⟩)] (fun r => r.txn == t0) w := fun W r hb => by
  have c := (hb.cell (p := ⟨B, 0, none⟩) hB).trans hc
  have hs := hb.size
  have hl := Nat.lt_of_lt_of_le hB hs
  obtain ⟨id, txn, mode, want, since⟩ := r
  show Calls Tryz.prog 63 #[.agg #[.int .i64 id, .int .i64 txn, .int .i64 mode, .int .i64 want, .int .i64 since], .pointer (some ⟨B, 0, none⟩)] W _
  clear hb hc
  go_enter Tryz.func63, Tryz.ntmps63
  go_wp2
  go_ret
  exact ⟨rfl, (Below.refl _ _).alloc (Nat.le_refl _) _⟩
theorem ask1 (id0 t0 : Int) (B C : Nat) (w : World) (hB : B < w.heap.size) (hc : w.cell? ⟨B, 0, none⟩ = some (.int .i64 id0)) (hC : C < w.heap.size) (hd : w.cell? ⟨C, 0, none⟩ = some (.int .i64 t0)) :
    PredQ 42 #[.pointer (some ⟨B, 0, none⟩), .pointer (some ⟨C, 0, none⟩)] (fun r => r.id == id0 || r.txn == t0) w := fun W r hb => by
  have c := (hb.cell (p := ⟨B, 0, none⟩) hB).trans hc
  have d := (hb.cell (p := ⟨C, 0, none⟩) hC).trans hd
  have hs := hb.size
  have hl := Nat.lt_of_lt_of_le hB hs
  have hl' := Nat.lt_of_lt_of_le hC hs
  obtain ⟨id, txn, mode, want, since⟩ := r
  show Calls Tryz.prog 42 #[.agg #[.int .i64 id, .int .i64 txn, .int .i64 mode, .int .i64 want, .int .i64 since], .pointer (some ⟨B, 0, none⟩), .pointer (some ⟨C, 0, none⟩)] W _
  clear hb hc hd
  cases h1 : id == id0 with
  | true =>
    go_enter Tryz.func42, Tryz.ntmps42
    go_wp2
    go_ret
    exact ⟨by simp_all, (Below.refl _ _).alloc (Nat.le_refl _) _⟩
  | false =>
    go_enter Tryz.func42, Tryz.ntmps42
    go_wp2
    go_ret
    exact ⟨by simp_all, (Below.refl _ _).alloc (Nat.le_refl _) _⟩
def fitsP (r o : Rq) : Bool := o.id != r.id && (o.mode != 0 && !comB o.mode r.want)
theorem fits1 (r0 : Rq) (B : Nat) (w : World) (hB : B < w.heap.size) (hc0 : w.cell? ⟨B, 0, none⟩ = some (.int .i64 r0.id)) (hc3 : w.cell? ⟨B, 3, none⟩ = some (.int .i64 r0.want)) :
    PredQ 80 #[.pointer (some ⟨B, 0, none⟩)] (fitsP r0) w := fun W r hb => by
  have c := (hb.cell (p := ⟨B, 0, none⟩) hB).trans hc0
  have d := (hb.cell (p := ⟨B, 3, none⟩) hB).trans hc3
  have hs := hb.size
  have hl := Nat.lt_of_lt_of_le hB hs
  have H := Lib.hid (fun w => holds_any r w)
  have M := Lib.hid (fun w => compat_any r.mode r0.want w)
  unfold fitsP
  generalize r0.id = id0 at *
  generalize r0.want = want0 at *
  obtain ⟨id, txn, mode, want, since⟩ := r
  unfold Rq.val at *
  simp only at M ⊢
  show Calls Tryz.prog 80 #[.agg #[.int .i64 id, .int .i64 txn, .int .i64 mode, .int .i64 want, .int .i64 since], .pointer (some ⟨B, 0, none⟩)] W _
  clear hb hc0 hc3
  cases h1 : id != id0 with
  | false =>
    go_enter Tryz.func80, Tryz.ntmps80
    go_wp2
    go_ret
    exact ⟨by simp, (Below.refl _ _).alloc (Nat.le_refl _) _⟩
  | true =>
    cases h2 : mode != 0 with
    | false =>
      simp only [h2] at H
      go_enter Tryz.func80, Tryz.ntmps80
      go_wp2_with fail
      refine (H.out _).mono ?_
      rintro e w1 ⟨rfl, b1⟩
      replace b1 := Lib.hid b1
      go_wp2_with fail
      go_ret
      exact ⟨by simp, belA _ b1.out⟩
    | true =>
      simp only [h2] at H
      go_enter Tryz.func80, Tryz.ntmps80
      go_wp2_with fail
      refine (H.out _).mono ?_
      rintro e w1 ⟨rfl, b1⟩
      obtain ⟨c0, c1, c2, c3, c4⟩ := cellsA b1 _ _ _ _ _ rfl
      have d' := (belA _ b1).cell (p := ⟨B, 3, none⟩) (by show B < _; omega)
      rw [d] at d'
      replace b1 := Lib.hid b1
      go_wp2_with fail
      refine (M.out _).mono ?_
      rintro e w2 ⟨rfl, b2⟩
      have fin := Lib.hid (belT (belA _ b1.out) b2)
      clear b2 b1 c0 c1 c2 c3 c4 d'
      go_wp2_with fail
      go_ret
      exact ⟨by simp, fin.out⟩
theorem eg_fits : ∀ args w, (callFunc 80 args).run Tryz.prog w = .ok (.enter 80 args) w := enters_of Tryz.func80 (by kernel_rfl) rfl
theorem eg_first : ∀ args w, (callFunc 79 args).run Tryz.prog w = .ok (.enter 79 args) w := enters_of Tryz.func79 (by kernel_rfl) rfl
theorem eg_place : ∀ args w, (callFunc 81 args).run Tryz.prog w = .ok (.enter 81 args) w := enters_of Tryz.func81 (by kernel_rfl) rfl
theorem eg_without : ∀ args w, (callFunc 83 args).run Tryz.prog w = .ok (.enter 83 args) w := enters_of Tryz.func83 (by kernel_rfl) rfl
theorem eg_mode : ∀ args w, (callFunc 63 args).run Tryz.prog w = .ok (.enter 63 args) w := enters_of Tryz.func63 (by kernel_rfl) rfl
theorem eg_ask : ∀ args w, (callFunc 42 args).run Tryz.prog w = .ok (.enter 42 args) w := enters_of Tryz.func42 (by kernel_rfl) rfl

theorem two_boxes (w : World) (b0 b1 : Array Value) (t0 t1 : TypeId) : Below w.heap.size w ((w.alloc (.cells b0 t0)).alloc (.cells b1 t1)) := ((Below.refl _ _).alloc (Nat.le_refl _) _).alloc (by simp) _
theorem snd_box (w : World) (b0 b1 : Array Value) (t0 t1 : TypeId) (i : Nat) : ((w.alloc (.cells b0 t0)).alloc (.cells b1 t1)).cell? ⟨w.heap.size + 1, i, none⟩ = b1[i]? := by
  have := (Blk.new (w.alloc (.cells b0 t0)) t1 b1).cell i
  rw [World.size_alloc] at this
  exact this
theorem fits_any (t r n : Int) (v : Value) (l : List Rq) (q : Rq) (w : World) (hv : RQ w v l) (hl : l.length ≤ 1000) :
    Calls Tryz.prog 45 #[hval t r v n, q.val] w fun e w' => e = .returned (.bool !(l.any (fitsP q))) ∧ Below w.heap.size w w' := by
  have H := Lib.hid (fun b0 => contains_any v l 80 #[.pointer (some ⟨w.heap.size + 1, 0, none⟩)] (fitsP q) ((w.alloc (.cells b0 62)).alloc (.cells q.cells.toArray 42)) (hv.below (two_boxes _ _ _ _ _)) hl
    (fits1 q (w.heap.size + 1) _ (by simp) (snd_box _ _ _ _ _ 0) (snd_box _ _ _ _ _ 3)) eg_fits)
  have b0 := Lib.hid (fun c0 c1 => two_boxes w c0 c1 62 42)
  obtain ⟨a, c, rfl, _⟩ := hv
  generalize l.any (fitsP q) = x at *
  obtain ⟨id, txn, mode, want, since⟩ := q
  unfold Rq.cells at H
  simp only at H
  have eg := eg_fits
  unfold hval Rq.val
  simp only
  go_enter Tryz.func45, Tryz.ntmps45
  go_wp2_with fail
  refine (H.out _).mono ?_
  rintro e w1 ⟨rfl, b1⟩
  have fin := Lib.hid (belT (b0.out _ _) b1)
  clear b1
  go_wp2_with fail
  go_ret
  exact ⟨rfl, fin.out⟩
theorem place_any (t r n : Int) (v : Value) (l : List Rq) (id : Int) (w : World) (hv : RQ w v l) (hl : l.length ≤ 1000) :
    Calls Tryz.prog 52 #[hval t r v n, .int .i64 id] w fun e w' => e = .returned (.int .i64 (idxF (fun q => q.id == id) l 0)) ∧ Below w.heap.size w w' := by
  have H := Lib.hid (fun b0 => index_any v l 81 #[.pointer (some ⟨w.heap.size + 1, 0, none⟩)] (fun q => q.id == id) ((w.alloc (.cells b0 62)).alloc (.cells #[.int .i64 id] 3)) (hv.below (two_boxes _ _ _ _ _)) hl
    (place1 id (w.heap.size + 1) _ (by simp) (snd_box _ _ _ _ _ 0)) eg_place)
  have b0 := Lib.hid (fun c0 c1 => two_boxes w c0 c1 62 3)
  obtain ⟨a, c, rfl, _⟩ := hv
  generalize idxF (fun q => q.id == id) l 0 = x at *
  have eg := eg_place
  unfold hval
  go_enter Tryz.func52, Tryz.ntmps52
  go_wp2_with fail
  refine (H.out _).mono ?_
  rintro e w1 ⟨rfl, b1⟩
  have fin := Lib.hid (belT (b0.out _ _) b1)
  clear b1
  go_wp2_with fail
  go_ret
  exact ⟨rfl, fin.out⟩

/-- Which one of the first k upgrades first. -/
def bestK (l : List Rq) : Nat → Int
  | 0 => -1
  | k+1 => if upB (l.getD k default) && (decide (bestK l k < 0) || decide ((l.getD k default).since < (l.getD (bestK l k).toNat default).since)) then k else bestK l k
theorem bestK_bd (l : List Rq) : ∀ k, -1 ≤ bestK l k ∧ bestK l k < k
  | 0 => by simp [bestK]
  | k+1 => by
    have := bestK_bd l k
    unfold bestK
    split <;> omega
/-- Which one is granted first, if it can be; -1. -/
def firstI (l : List Rq) : Int := if bestK l l.length < 0 then idxF (fun r => r.mode == 0) l 0 else bestK l l.length
set_option maxHeartbeats 2000000 in
theorem first_any (t r n : Int) (v : Value) (l : List Rq) (w : World) (hv : RQ w v l) (hl : l.length ≤ 1000) :
    Calls Tryz.prog 44 #[hval t r v n] w fun e w' => e = .returned (.int .i64 (firstI l)) ∧ Below w.heap.size w w' := by
  have h0 : ∀ b0, Sep (w.alloc (.cells b0 62)) [blk w.heap.size 62 b0, old w] := fun b0 => (Sep.start w).alloc b0 62
  have H := Lib.hid (fun W (hb : Below w.heap.size w W) => index_any v l 79 #[] (fun r => r.mode == 0) W (hv.below hb) hl (first1 W) eg_first)
  have eg := eg_first
  have HU := Lib.hid (fun q w => upgrades_any q w)
  replace h0 := Lib.hid h0
  have hv' := Lib.hid hv
  obtain ⟨a, c, rfl, hlc, _, hr⟩ := hv
  replace hr := Lib.hid hr
  unfold hval
  go_enter Tryz.func44, Tryz.ntmps44
  go_wp2_with fail
  have hS := Lib.hid (h0.out #[.int .i64 t, .int .i64 r, .slice a l.length c, .int .i64 n])
  clear h0
  generalize hn : l.length = m at *
  replace hn := Lib.hid hn
  go_loopg [3, 10] m (fun g s3 i wr => ∃ k : Nat, k ≤ m ∧ g = m - k ∧ i = .int .i64 k ∧ s3 = .int .i64 (bestK l k) ∧ Hid (Sep wr [blk w.heap.size 62 #[.int .i64 t, .int .i64 r, .slice a m c, .int .i64 n], old w]))
  case atStart => exact ⟨0, Nat.zero_le _, rfl, rfl, rfl, hS⟩
  case round =>
    clear hS
    obtain ⟨k, hk, hg, rfl, rfl, hS⟩ := hrel
    by_cases hlt : k < m
    · obtain ⟨b, off, rfl, hbl, hz⟩ := hr.out (by have := hn.out; omega)
      obtain ⟨z0, z1, z2, z3, z4⟩ := hz k (by have := hn.out; omega)
      have kk : ∀ o, wr.cell? ⟨b, o, none⟩ = w.cell? ⟨b, o, none⟩ := fun o => hS.out.to1.gold.cell (p := ⟨b, o, none⟩) hbl
      rw [← kk] at z0 z1 z2 z3 z4
      obtain ⟨x1, _, _, x2, _⟩ := hS.out.b4
      have E := Lib.hid (show bestK l (k + 1) = if upB (l.getD k default) && (decide (bestK l k < 0) || decide ((l.getD k default).since < (l.getD (bestK l k).toNat default).since)) then (k : Int) else bestK l k from rfl)
      have hbd := bestK_bd l k
      have hzz := Lib.hid hz
      clear kk hz hr
      generalize l.getD k default = q at *
      generalize bestK l k = best at *
      have HQ := Lib.hid (fun w => HU.out q w)
      have hS2 := Lib.hid (hS.out.alloc q.cells.toArray 42)
      obtain ⟨id, txn, mode, want, since⟩ := q
      simp only [Rq.val] at HQ
      simp only [Rq.cells] at hS2
      obtain ⟨_, p0, p1, p2, p3, p4, _⟩ := hS2.out.b5
      obtain ⟨_, _, _, p5, _⟩ := hS2.out.to1.b4
      cases hu : upB ⟨id, txn, mode, want, since⟩ with
      | false =>
        have E2 := Lib.hid (show bestK l (k + 1) = best by rw [E.out, hu]; rfl)
        rw [hu] at HQ
        clear E
        · go_wp2_with fail
          refine wp_region_any (by kernel_rfl) ?_
          change wpAny _ _ _ _ _ _ _ (World.drew _)
          refine wpAny_ready (rs := [0]) (by kernel_rfl) (by simp) ?_
          refine AllReady.cons rfl (fun K hK => ?_) AllReady.nil
          go_simp
          refine hK _ _ ?_
          clear hK K
          refine wpAny_ready (rs := [1]) (by kernel_rfl) (by simp) ?_
          refine AllReady.cons rfl (fun K hK => ?_) AllReady.nil
          go_simp
          go_wp2_with (go_at_call 55; refine (HQ.out _).mono ?_; rintro e w1 ⟨rfl, b1⟩; have hS3 := Lib.hid ((show Sep _ [blk wr.heap.size 42 #[.int .i64 id, .int .i64 txn, .int .i64 mode, .int .i64 want, .int .i64 since], blk w.heap.size 62 #[.int .i64 t, .int .i64 r, .slice (some ⟨b, off, none⟩) m c, .int .i64 n], old w] from by first | exact hS2.out | exact hS2.out.drew).below b1); clear b1)
          refine reg_take 2 (.bool false) rfl (by kernel_rfl) (by kernel_rfl) (by kernel_rfl) (fun _ _ _ _ _ h => h) (by kernel_rfl) (fun w => by go_simp; try with_reducible rfl) ?_
          simp only [Act.put, List.setIfInBounds_toArray, List.set_cons_succ, List.set_cons_zero, List.getElem_toArray, List.getElem_cons_zero, List.getElem_cons_succ]
          refine reg_skip 3 rfl (by kernel_rfl) (by kernel_rfl) (by kernel_rfl) (fun _ _ _ _ _ h => h) (by kernel_rfl) ?_
          simp only [Act.put, List.setIfInBounds_toArray, List.set_cons_succ, List.set_cons_zero, List.getElem_toArray, List.getElem_cons_zero, List.getElem_cons_succ]
          refine reg_skip 4 rfl (by kernel_rfl) (by kernel_rfl) (by kernel_rfl) (fun _ _ _ _ _ h => h) (by kernel_rfl) ?_
          simp only [Act.put, List.setIfInBounds_toArray, List.set_cons_succ, List.set_cons_zero, List.getElem_toArray, List.getElem_cons_zero, List.getElem_cons_succ]
          refine reg_skip 5 rfl (by kernel_rfl) (by kernel_rfl) (by kernel_rfl) (fun _ _ _ _ _ h => h) (by kernel_rfl) ?_
          simp only [Act.put, List.setIfInBounds_toArray, List.set_cons_succ, List.set_cons_zero, List.getElem_toArray, List.getElem_cons_zero, List.getElem_cons_succ]
          refine reg_skip 6 rfl (by kernel_rfl) (by kernel_rfl) (by kernel_rfl) (fun _ _ _ _ _ h => h) (by kernel_rfl) ?_
          simp only [Act.put, List.setIfInBounds_toArray, List.set_cons_succ, List.set_cons_zero, List.getElem_toArray, List.getElem_cons_zero, List.getElem_cons_succ]
          refine reg_skip 7 rfl (by kernel_rfl) (by kernel_rfl) (by kernel_rfl) (fun _ _ _ _ _ h => h) (by kernel_rfl) ?_
          simp only [Act.put, List.setIfInBounds_toArray, List.set_cons_succ, List.set_cons_zero, List.getElem_toArray, List.getElem_cons_zero, List.getElem_cons_succ]
          refine reg_skip 8 rfl (by kernel_rfl) (by kernel_rfl) (by kernel_rfl) (fun _ _ _ _ _ h => h) (by kernel_rfl) ?_
          simp only [Act.put, List.setIfInBounds_toArray, List.set_cons_succ, List.set_cons_zero, List.getElem_toArray, List.getElem_cons_zero, List.getElem_cons_succ]
          refine reg_skip 9 rfl (by kernel_rfl) (by kernel_rfl) (by kernel_rfl) (fun _ _ _ _ _ h => h) (by kernel_rfl) ?_
          simp only [Act.put, List.setIfInBounds_toArray, List.set_cons_succ, List.set_cons_zero, List.getElem_toArray, List.getElem_cons_zero, List.getElem_cons_succ]
          refine reg_skip 10 rfl (by kernel_rfl) (by kernel_rfl) (by kernel_rfl) (fun _ _ _ _ _ h => h) (by kernel_rfl) ?_
          simp only [Act.put, List.setIfInBounds_toArray, List.set_cons_succ, List.set_cons_zero, List.getElem_toArray, List.getElem_cons_zero, List.getElem_cons_succ]
          refine reg_skip 11 rfl (by kernel_rfl) (by kernel_rfl) (by kernel_rfl) (fun _ _ _ _ _ h => h) (by kernel_rfl) ?_
          simp only [Act.put, List.setIfInBounds_toArray, List.set_cons_succ, List.set_cons_zero, List.getElem_toArray, List.getElem_cons_zero, List.getElem_cons_succ]
          refine reg_skip 12 rfl (by kernel_rfl) (by kernel_rfl) (by kernel_rfl) (fun _ _ _ _ _ h => h) (by kernel_rfl) ?_
          simp only [Act.put, List.setIfInBounds_toArray, List.set_cons_succ, List.set_cons_zero, List.getElem_toArray, List.getElem_cons_zero, List.getElem_cons_succ]
          refine reg_skip 13 rfl (by kernel_rfl) (by kernel_rfl) (by kernel_rfl) (fun _ _ _ _ _ h => h) (by kernel_rfl) ?_
          simp only [Act.put, List.setIfInBounds_toArray, List.set_cons_succ, List.set_cons_zero, List.getElem_toArray, List.getElem_cons_zero, List.getElem_cons_succ]
          refine reg_skip 14 rfl (by kernel_rfl) (by kernel_rfl) (by kernel_rfl) (fun _ _ _ _ _ h => h) (by kernel_rfl) ?_
          simp only [Act.put, List.setIfInBounds_toArray, List.set_cons_succ, List.set_cons_zero, List.getElem_toArray, List.getElem_cons_zero, List.getElem_cons_succ]
          refine reg_skip 15 rfl (by kernel_rfl) (by kernel_rfl) (by kernel_rfl) (fun _ _ _ _ _ h => h) (by kernel_rfl) ?_
          simp only [Act.put, List.setIfInBounds_toArray, List.set_cons_succ, List.set_cons_zero, List.getElem_toArray, List.getElem_cons_zero, List.getElem_cons_succ]
          refine reg_skip 16 rfl (by kernel_rfl) (by kernel_rfl) (by kernel_rfl) (fun _ _ _ _ _ h => h) (by kernel_rfl) ?_
          simp only [Act.put, List.setIfInBounds_toArray, List.set_cons_succ, List.set_cons_zero, List.getElem_toArray, List.getElem_cons_zero, List.getElem_cons_succ]
          refine reg_take 17 (.bool false) rfl (by kernel_rfl) (by kernel_rfl) (by kernel_rfl) (fun _ _ _ _ _ h => h) (by kernel_rfl) (fun w => by go_simp; try with_reducible rfl) ?_
          simp only [Act.put, List.setIfInBounds_toArray, List.set_cons_succ, List.set_cons_zero, List.getElem_toArray, List.getElem_cons_zero, List.getElem_cons_succ]
          refine wpAny_done (by kernel_rfl) ?_ _
          go_wp2_with fail
          go_roundg (m - (k + 1))
          case measure => omega
          case rel => exact ⟨k + 1, by omega, rfl, by go_num, by rw [E2.out], hS3.out.tail⟩
      | true =>
        rw [hu] at HQ
        by_cases hb0 : best < 0
        · have E2 := Lib.hid (show bestK l (k + 1) = (k : Int) by rw [E.out, hu, decide_eq_true hb0]; rfl)
          have d0 : decide (best < 0) = true := by simpa using hb0
          clear E hb0
          go_wp2_with fail
          refine wp_region_any (by kernel_rfl) ?_
          change wpAny _ _ _ _ _ _ _ (World.drew _)
          refine wpAny_ready (rs := [0]) (by kernel_rfl) (by simp) ?_
          refine AllReady.cons rfl (fun K hK => ?_) AllReady.nil
          go_simp
          refine hK _ _ ?_
          clear hK K
          refine wpAny_ready (rs := [1]) (by kernel_rfl) (by simp) ?_
          refine AllReady.cons rfl (fun K hK => ?_) AllReady.nil
          go_simp
          go_wp2_with (go_at_call 55; refine (HQ.out _).mono ?_; rintro e w1 ⟨rfl, b1⟩; have hS3 := Lib.hid ((show Sep _ [blk wr.heap.size 42 #[.int .i64 id, .int .i64 txn, .int .i64 mode, .int .i64 want, .int .i64 since], blk w.heap.size 62 #[.int .i64 t, .int .i64 r, .slice (some ⟨b, off, none⟩) m c, .int .i64 n], old w] from by first | exact hS2.out | exact hS2.out.drew).below b1); clear b1)
          refine reg_take 2 (.bool true) rfl (by kernel_rfl) (by kernel_rfl) (by kernel_rfl) (fun _ _ _ _ _ h => h) (by kernel_rfl) (fun w => by go_simp; try with_reducible rfl) ?_
          simp only [Act.put, List.setIfInBounds_toArray, List.set_cons_succ, List.set_cons_zero, List.getElem_toArray, List.getElem_cons_zero, List.getElem_cons_succ]
          refine reg_take 3 (.int .i64 best) rfl (by kernel_rfl) (by kernel_rfl) (by kernel_rfl) (fun _ _ _ _ _ h => h) (by kernel_rfl) (fun w => by go_simp; try with_reducible rfl) ?_
          simp only [Act.put, List.setIfInBounds_toArray, List.set_cons_succ, List.set_cons_zero, List.getElem_toArray, List.getElem_cons_zero, List.getElem_cons_succ]
          refine reg_take 4 (.bool true) rfl (by kernel_rfl) (by kernel_rfl) (by kernel_rfl) (fun _ _ _ _ _ h => h) (by kernel_rfl) (fun w => by go_simp; try with_reducible rfl) ?_
          simp only [Act.put, List.setIfInBounds_toArray, List.set_cons_succ, List.set_cons_zero, List.getElem_toArray, List.getElem_cons_zero, List.getElem_cons_succ]
          refine reg_take 5 (.bool true) rfl (by kernel_rfl) (by kernel_rfl) (by kernel_rfl) (fun _ _ _ _ _ h => h) (by kernel_rfl) (fun w => by go_simp; try with_reducible rfl) ?_
          simp only [Act.put, List.setIfInBounds_toArray, List.set_cons_succ, List.set_cons_zero, List.getElem_toArray, List.getElem_cons_zero, List.getElem_cons_succ]
          refine reg_skip 6 rfl (by kernel_rfl) (by kernel_rfl) (by kernel_rfl) (fun _ _ _ _ _ h => h) (by kernel_rfl) ?_
          simp only [Act.put, List.setIfInBounds_toArray, List.set_cons_succ, List.set_cons_zero, List.getElem_toArray, List.getElem_cons_zero, List.getElem_cons_succ]
          refine reg_skip 7 rfl (by kernel_rfl) (by kernel_rfl) (by kernel_rfl) (fun _ _ _ _ _ h => h) (by kernel_rfl) ?_
          simp only [Act.put, List.setIfInBounds_toArray, List.set_cons_succ, List.set_cons_zero, List.getElem_toArray, List.getElem_cons_zero, List.getElem_cons_succ]
          refine reg_skip 8 rfl (by kernel_rfl) (by kernel_rfl) (by kernel_rfl) (fun _ _ _ _ _ h => h) (by kernel_rfl) ?_
          simp only [Act.put, List.setIfInBounds_toArray, List.set_cons_succ, List.set_cons_zero, List.getElem_toArray, List.getElem_cons_zero, List.getElem_cons_succ]
          refine reg_skip 9 rfl (by kernel_rfl) (by kernel_rfl) (by kernel_rfl) (fun _ _ _ _ _ h => h) (by kernel_rfl) ?_
          simp only [Act.put, List.setIfInBounds_toArray, List.set_cons_succ, List.set_cons_zero, List.getElem_toArray, List.getElem_cons_zero, List.getElem_cons_succ]
          refine reg_skip 10 rfl (by kernel_rfl) (by kernel_rfl) (by kernel_rfl) (fun _ _ _ _ _ h => h) (by kernel_rfl) ?_
          simp only [Act.put, List.setIfInBounds_toArray, List.set_cons_succ, List.set_cons_zero, List.getElem_toArray, List.getElem_cons_zero, List.getElem_cons_succ]
          refine reg_skip 11 rfl (by kernel_rfl) (by kernel_rfl) (by kernel_rfl) (fun _ _ _ _ _ h => h) (by kernel_rfl) ?_
          simp only [Act.put, List.setIfInBounds_toArray, List.set_cons_succ, List.set_cons_zero, List.getElem_toArray, List.getElem_cons_zero, List.getElem_cons_succ]
          refine reg_skip 12 rfl (by kernel_rfl) (by kernel_rfl) (by kernel_rfl) (fun _ _ _ _ _ h => h) (by kernel_rfl) ?_
          simp only [Act.put, List.setIfInBounds_toArray, List.set_cons_succ, List.set_cons_zero, List.getElem_toArray, List.getElem_cons_zero, List.getElem_cons_succ]
          refine reg_skip 13 rfl (by kernel_rfl) (by kernel_rfl) (by kernel_rfl) (fun _ _ _ _ _ h => h) (by kernel_rfl) ?_
          simp only [Act.put, List.setIfInBounds_toArray, List.set_cons_succ, List.set_cons_zero, List.getElem_toArray, List.getElem_cons_zero, List.getElem_cons_succ]
          refine reg_skip 14 rfl (by kernel_rfl) (by kernel_rfl) (by kernel_rfl) (fun _ _ _ _ _ h => h) (by kernel_rfl) ?_
          simp only [Act.put, List.setIfInBounds_toArray, List.set_cons_succ, List.set_cons_zero, List.getElem_toArray, List.getElem_cons_zero, List.getElem_cons_succ]
          refine reg_skip 15 rfl (by kernel_rfl) (by kernel_rfl) (by kernel_rfl) (fun _ _ _ _ _ h => h) (by kernel_rfl) ?_
          simp only [Act.put, List.setIfInBounds_toArray, List.set_cons_succ, List.set_cons_zero, List.getElem_toArray, List.getElem_cons_zero, List.getElem_cons_succ]
          refine reg_take 16 (.bool true) rfl (by kernel_rfl) (by kernel_rfl) (by kernel_rfl) (fun _ _ _ _ _ h => h) (by kernel_rfl) (fun w => by go_simp; try with_reducible rfl) ?_
          simp only [Act.put, List.setIfInBounds_toArray, List.set_cons_succ, List.set_cons_zero, List.getElem_toArray, List.getElem_cons_zero, List.getElem_cons_succ]
          refine reg_take 17 (.bool true) rfl (by kernel_rfl) (by kernel_rfl) (by kernel_rfl) (fun _ _ _ _ _ h => h) (by kernel_rfl) (fun w => by go_simp; try with_reducible rfl) ?_
          simp only [Act.put, List.setIfInBounds_toArray, List.set_cons_succ, List.set_cons_zero, List.getElem_toArray, List.getElem_cons_zero, List.getElem_cons_succ]
          refine wpAny_done (by kernel_rfl) ?_ _
          go_wp2_with fail
          go_roundg (m - (k + 1))
          case measure => omega
          case rel => exact ⟨k + 1, by omega, rfl, by go_num, by rw [E2.out], hS3.out.tail⟩
        · obtain ⟨bq, rfl⟩ := Int.eq_ofNat_of_zero_le (show 0 ≤ best by omega)
          have hzb := (hzz.out bq (by have := hn.out; omega)).2.2.2.2
          have zb0 := (hS2.out.to2.gold.cell (p := ⟨b, off + bq * 5 + 4, none⟩) hbl).trans hzb
          rw [Int.toNat_natCast] at E
          have E2 := Lib.hid (show bestK l (k + 1) = if decide (since < (l.getD bq default).since) then (k : Int) else bq by rw [E.out, hu, decide_eq_false hb0]; rfl)
          have d0 : decide ((bq : Int) < 0) = false := by simp
          have i1 : (0 : Int) ≤ (bq : Int) := by omega
          have i2 : (bq : Int) < (m : Int) := by omega
          clear E hb0
          generalize (l.getD bq default).since = sb at *
          by_cases hc : since < sb
          · have d1 : decide (since < sb) = true := by simpa using hc
            have E3 := Lib.hid (show bestK l (k + 1) = (k : Int) by rw [E2.out, if_pos d1])
            clear hc E2
            go_wp2_with fail
            go_region_held3 (fun w' => w'.cell? ⟨wr.heap.size, 0, none⟩ = some (.int .i64 id) ∧ w'.cell? ⟨wr.heap.size, 1, none⟩ = some (.int .i64 txn) ∧ w'.cell? ⟨wr.heap.size, 2, none⟩ = some (.int .i64 mode) ∧ w'.cell? ⟨wr.heap.size, 3, none⟩ = some (.int .i64 want) ∧ w'.cell? ⟨wr.heap.size, 4, none⟩ = some (.int .i64 since) ∧ w'.cell? ⟨w.heap.size, 2, none⟩ = some (.slice (some ⟨b, off, none⟩) m c) ∧ w'.cell? ⟨b, off + bq * 5 + 4, none⟩ = some (.int .i64 sb)) (exact ⟨by assumption, by assumption, by assumption, by assumption, by assumption, by assumption, by assumption⟩)
              (first | (go_at_call 55; refine (HQ.out _).mono ?_; rintro e w1 ⟨rfl, b1⟩; have hS3 := Lib.hid ((show Sep _ [blk wr.heap.size 42 #[.int .i64 id, .int .i64 txn, .int .i64 mode, .int .i64 want, .int .i64 since], blk w.heap.size 62 #[.int .i64 t, .int .i64 r, .slice (some ⟨b, off, none⟩) m c, .int .i64 n], old w] from by first | exact hS2.out | exact hS2.out.drew).below b1); obtain ⟨_, r0, r1, r2, r3, r4, _⟩ := hS3.out.b5; obtain ⟨_, _, _, v2, _⟩ := hS3.out.to1.b4; have zb := (hS3.out.to2.gold.cell (p := ⟨b, off + bq * 5 + 4, none⟩) hbl).trans hzb; clear b1))
            go_wp2_with fail
            go_roundg (m - (k + 1))
            case measure => omega
            case rel => exact ⟨k + 1, by omega, rfl, by go_num, by rw [E3.out], hS3.out.tail⟩
          · have d1 : decide (since < sb) = false := by simpa using hc
            have E3 := Lib.hid (show bestK l (k + 1) = (bq : Int) by rw [E2.out, if_neg (by rw [d1]; decide)])
            clear hc E2
            go_wp2_with fail
            go_region_held3 (fun w' => w'.cell? ⟨wr.heap.size, 0, none⟩ = some (.int .i64 id) ∧ w'.cell? ⟨wr.heap.size, 1, none⟩ = some (.int .i64 txn) ∧ w'.cell? ⟨wr.heap.size, 2, none⟩ = some (.int .i64 mode) ∧ w'.cell? ⟨wr.heap.size, 3, none⟩ = some (.int .i64 want) ∧ w'.cell? ⟨wr.heap.size, 4, none⟩ = some (.int .i64 since) ∧ w'.cell? ⟨w.heap.size, 2, none⟩ = some (.slice (some ⟨b, off, none⟩) m c) ∧ w'.cell? ⟨b, off + bq * 5 + 4, none⟩ = some (.int .i64 sb)) (exact ⟨by assumption, by assumption, by assumption, by assumption, by assumption, by assumption, by assumption⟩)
              (first | (go_at_call 55; refine (HQ.out _).mono ?_; rintro e w1 ⟨rfl, b1⟩; have hS3 := Lib.hid ((show Sep _ [blk wr.heap.size 42 #[.int .i64 id, .int .i64 txn, .int .i64 mode, .int .i64 want, .int .i64 since], blk w.heap.size 62 #[.int .i64 t, .int .i64 r, .slice (some ⟨b, off, none⟩) m c, .int .i64 n], old w] from by first | exact hS2.out | exact hS2.out.drew).below b1); obtain ⟨_, r0, r1, r2, r3, r4, _⟩ := hS3.out.b5; obtain ⟨_, _, _, v2, _⟩ := hS3.out.to1.b4; have zb := (hS3.out.to2.gold.cell (p := ⟨b, off + bq * 5 + 4, none⟩) hbl).trans hzb; clear b1))
            go_wp2_with fail
            go_roundg (m - (k + 1))
            case measure => omega
            case rel => exact ⟨k + 1, by omega, rfl, by go_num, by rw [E3.out], hS3.out.tail⟩
    · obtain rfl : k = m := by omega
      have F := Lib.hid (show firstI l = if bestK l k < 0 then idxF (fun r => r.mode == 0) l 0 else bestK l k by unfold firstI; rw [hn.out])
      obtain ⟨x1, _, _, x2, _⟩ := hS.out.b4
      have bel := Lib.hid hS.out.tail.gold
      clear hS
      generalize bestK l k = best at *
      have HI := Lib.hid (H.out wr bel.out)
      generalize idxF (fun r => r.mode == 0) l 0 = ix at *
      by_cases hb0 : best < 0
      · have E := Lib.hid (show firstI l = ix by rw [F.out, if_pos hb0])
        have d0 : decide (best < 0) = true := by simpa using hb0
        clear hb0 F
        go_wp2_with fail
        refine HI.out.mono ?_
        rintro e w1 ⟨rfl, b1⟩
        replace bel := Lib.hid (bel.out.trans (b1.mono bel.out.size))
        clear b1
        go_wp2_with fail
        go_ret
        exact ⟨by rw [E.out]; rfl, bel.out⟩
      · have E := Lib.hid (show firstI l = best by rw [F.out, if_neg hb0])
        have d0 : decide (best < 0) = false := by simpa using hb0
        clear hb0 F
        go_wp2_with fail
        go_ret
        exact ⟨by rw [E.out]; rfl, bel.out⟩
end Go.Proofs.YtmacpjnkmkaloaaGreat
