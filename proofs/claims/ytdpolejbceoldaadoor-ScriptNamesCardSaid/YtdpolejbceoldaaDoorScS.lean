/-
  Same and slices.Equal at ops and at picks; equality of caps. No condition beside lists that can be read.
-/
import Derived.Test.YtdpolejbceoldaaDoorScG
import Derived.Laws.EntriesVeiled
namespace Go.Proofs.YtdpolejbceoldaaDoor
set_option linter.unusedSimpArgs false
set_option linter.unusedVariables false
set_option linter.unnecessarySimpa false
open Go.RowKit
def eqD (P : Program) (d : Nat) (xs ys : Array Value) : List (Bool × TypeId × Nat) → Sem Bool
  | [] => pure true
  | (b, t, o) :: ds =>
    if b = false then do
      let x ← part t xs o
      let y ← part t ys o
      let r ← Op.equalIn d t x y
      if (!r) = true then pure false else eqD P d xs ys ds
    else eqD P d xs ys ds
theorem eqFields_eqD (P : Program) (d : Nat) (xs ys : Array Value) : ∀ fs : List Field, Op.eqFields d xs ys fs = eqD P d xs ys (fs.map fun f => (f.name == "_", f.type, f.offset))
  | [] => rfl
  | f :: fs => by
    have ih := eqFields_eqD P d xs ys fs
    simp only [List.map_cons, Op.eqFields, eqD, ih, beq_eq_false_iff_ne]
theorem eqD_nil {P : Program} {d : Nat} {xs ys : Array Value} {w : World} : (eqD P d xs ys []).run P w = .ok true w := by simp [eqD]
theorem eqD_cons {P : Program} {d : Nat} {xs ys : Array Value} {t : TypeId} {o : Nat} {ds : List (Bool × TypeId × Nat)} {w : World} {x y : Value} {r s : Bool} (h1 : (part t xs o).run P w = .ok x w) (h2 : (part t ys o).run P w = .ok y w)
    (h3 : (Op.equalIn d t x y).run P w = .ok r w) (h4 : (eqD P d xs ys ds).run P w = .ok s w) : (eqD P d xs ys ((false, t, o) :: ds)).run P w = .ok (r && s) w := by
  cases r <;> simp [eqD, h1, h2, h3, h4, Result.andThen]
theorem part_one {P : Program} {t : TypeId} {xs : Array Value} {o : Nat} {v : Value} {w : World} {d : TypeDesc} (ht : P.underlying t = some d) (hd : (match d with | .struct _ | .array _ _ => false | _ => true) = true) (h : xs[o]? = some v) : (part t xs o).run P w = .ok v w := by
  cases d <;> simp_all [part, isAgg, run_underlying ht, Result.andThen]
theorem part_struct {P : Program} {t : TypeId} {xs : Array Value} {o n : Nat} {w : World} {fs : Array Field} {i : TypeInfo} (ht : P.underlying t = some (.struct fs)) (hi : P.info? t = some i) (hn : P.cellsOf t = n) : (part t xs o).run P w = .ok (.agg (xs.extract o (o + n))) w := by
  subst hn
  simp [part, isAgg, run_underlying ht, run_sizeOf w hi, Result.andThen]
def eqB_name (a0 b0 : Int) (a1 b1 : Int) : Bool := ((a0 == b0) && ((a1 == b1) && true))
theorem held_name : Tryd.prog.stoodInHeld 33 = false := by kernel_rfl
theorem und_name : Tryd.prog.underlying 33 = some (.struct (Tryd.prog.fieldsOf 33)) := by kernel_rfl
theorem names_name : (Tryd.prog.fieldsOf 33).toList.map (fun f => (f.name == "_", f.type, f.offset)) = [(false, 3, 0), (false, 3, 1)] := by kernel_rfl
theorem infos_name : ∃ i, Tryd.prog.info? 33 = some i := Option.isSome_iff_exists.1 (by kernel_rfl)
theorem size_name : Tryd.prog.cellsOf 33 = 2 := by kernel_rfl
theorem equalIn_name (d : Nat) (a0 b0 : Int) (a1 b1 : Int) (w : World) : (Op.equalIn (d + 2) 33 (.agg #[.int .i64 a0, .int .i64 a1]) (.agg #[.int .i64 b0, .int .i64 b1])).run Tryd.prog w = .ok (eqB_name a0 b0 a1 b1) w := by
  rw [run_equalIn_struct (P := Tryd.prog) w (d + 1) 33 _ _ und_name held_name, eqFields_eqD Tryd.prog, names_name]
  unfold eqB_name
  refine eqD_cons (part_one Tryd.underlying3 rfl rfl) (part_one Tryd.underlying3 rfl rfl) (run_equalIn_int w _ _ _ _ _ _ Tryd.underlying3) ?_
  refine eqD_cons (part_one Tryd.underlying3 rfl rfl) (part_one Tryd.underlying3 rfl rfl) (run_equalIn_int w _ _ _ _ _ _ Tryd.underlying3) ?_
  exact eqD_nil
theorem run_eql_name (a0 b0 : Int) (a1 b1 : Int) (w : World) : (binOp .eql 33 (.agg #[.int .i64 a0, .int .i64 a1]) (.agg #[.int .i64 b0, .int .i64 b1])).run Tryd.prog w = .ok (.bool (eqB_name a0 b0 a1 b1)) w := by
  have h := equalIn_name 9998 a0 b0 a1 b1 w
  simp only [binOp]
  simp [Op.equal, Op.maxDepth, h]
theorem run_neq_name (a0 b0 : Int) (a1 b1 : Int) (w : World) : (binOp .neq 33 (.agg #[.int .i64 a0, .int .i64 a1]) (.agg #[.int .i64 b0, .int .i64 b1])).run Tryd.prog w = .ok (.bool !(eqB_name a0 b0 a1 b1)) w := by
  have h := equalIn_name 9998 a0 b0 a1 b1 w
  simp only [binOp]
  simp [Op.equal, Op.maxDepth, h]
theorem eqB_name_iff (a0 b0 : Int) (a1 b1 : Int) : eqB_name a0 b0 a1 b1 = decide (a0 = b0 ∧ a1 = b1) := by
  rw [Bool.eq_iff_iff]
  unfold eqB_name
  simp
def eqB_op (a0 b0 : Int) (a1 b1 : Int) (a2 b2 : Int) (a3 b3 : Int) (a4 b4 : Int) (a5 b5 : Int) : Bool := ((a0 == b0) && ((eqB_name a1 b1 a2 b2) && ((a3 == b3) && ((a4 == b4) && ((a5 == b5) && true)))))
theorem held_op : Tryd.prog.stoodInHeld 36 = false := by kernel_rfl
theorem und_op : Tryd.prog.underlying 36 = some (.struct (Tryd.prog.fieldsOf 36)) := by kernel_rfl
theorem names_op : (Tryd.prog.fieldsOf 36).toList.map (fun f => (f.name == "_", f.type, f.offset)) = [(false, 3, 0), (false, 33, 1), (false, 34, 3), (false, 2, 4), (false, 2, 5)] := by kernel_rfl
theorem infos_op : ∃ i, Tryd.prog.info? 36 = some i := Option.isSome_iff_exists.1 (by kernel_rfl)
theorem size_op : Tryd.prog.cellsOf 36 = 6 := by kernel_rfl
theorem equalIn_op (d : Nat) (a0 b0 : Int) (a1 b1 : Int) (a2 b2 : Int) (a3 b3 : Int) (a4 b4 : Int) (a5 b5 : Int) (w : World) : (Op.equalIn (d + 3) 36 (.agg #[.int .i64 a0, .int .i64 a1, .int .i64 a2, .int .i64 a3, .int .i64 a4, .int .i64 a5]) (.agg #[.int .i64 b0, .int .i64 b1, .int .i64 b2, .int .i64 b3, .int .i64 b4, .int .i64 b5])).run Tryd.prog w = .ok (eqB_op a0 b0 a1 b1 a2 b2 a3 b3 a4 b4 a5 b5) w := by
  rw [run_equalIn_struct (P := Tryd.prog) w (d + 2) 36 _ _ und_op held_op, eqFields_eqD Tryd.prog, names_op]
  unfold eqB_op
  refine eqD_cons (part_one Tryd.underlying3 rfl rfl) (part_one Tryd.underlying3 rfl rfl) (run_equalIn_int w _ _ _ _ _ _ Tryd.underlying3) ?_
  obtain ⟨i1, hi1⟩ := infos_name
  refine eqD_cons (part_struct und_name hi1 size_name) (part_struct und_name hi1 size_name) (equalIn_name (d + 0) a1 b1 a2 b2 w) ?_
  refine eqD_cons (part_one Tryd.underlying34 rfl rfl) (part_one Tryd.underlying34 rfl rfl) (run_equalIn_int w _ _ _ _ _ _ Tryd.underlying34) ?_
  refine eqD_cons (part_one Tryd.underlying2 rfl rfl) (part_one Tryd.underlying2 rfl rfl) (run_equalIn_int w _ _ _ _ _ _ Tryd.underlying2) ?_
  refine eqD_cons (part_one Tryd.underlying2 rfl rfl) (part_one Tryd.underlying2 rfl rfl) (run_equalIn_int w _ _ _ _ _ _ Tryd.underlying2) ?_
  exact eqD_nil
theorem run_eql_op (a0 b0 : Int) (a1 b1 : Int) (a2 b2 : Int) (a3 b3 : Int) (a4 b4 : Int) (a5 b5 : Int) (w : World) : (binOp .eql 36 (.agg #[.int .i64 a0, .int .i64 a1, .int .i64 a2, .int .i64 a3, .int .i64 a4, .int .i64 a5]) (.agg #[.int .i64 b0, .int .i64 b1, .int .i64 b2, .int .i64 b3, .int .i64 b4, .int .i64 b5])).run Tryd.prog w = .ok (.bool (eqB_op a0 b0 a1 b1 a2 b2 a3 b3 a4 b4 a5 b5)) w := by
  have h := equalIn_op 9997 a0 b0 a1 b1 a2 b2 a3 b3 a4 b4 a5 b5 w
  simp only [binOp]
  simp [Op.equal, Op.maxDepth, h]
theorem run_neq_op (a0 b0 : Int) (a1 b1 : Int) (a2 b2 : Int) (a3 b3 : Int) (a4 b4 : Int) (a5 b5 : Int) (w : World) : (binOp .neq 36 (.agg #[.int .i64 a0, .int .i64 a1, .int .i64 a2, .int .i64 a3, .int .i64 a4, .int .i64 a5]) (.agg #[.int .i64 b0, .int .i64 b1, .int .i64 b2, .int .i64 b3, .int .i64 b4, .int .i64 b5])).run Tryd.prog w = .ok (.bool !(eqB_op a0 b0 a1 b1 a2 b2 a3 b3 a4 b4 a5 b5)) w := by
  have h := equalIn_op 9997 a0 b0 a1 b1 a2 b2 a3 b3 a4 b4 a5 b5 w
  simp only [binOp]
  simp [Op.equal, Op.maxDepth, h]
theorem eqB_op_iff (a0 b0 : Int) (a1 b1 : Int) (a2 b2 : Int) (a3 b3 : Int) (a4 b4 : Int) (a5 b5 : Int) : eqB_op a0 b0 a1 b1 a2 b2 a3 b3 a4 b4 a5 b5 = decide (a0 = b0 ∧ a1 = b1 ∧ a2 = b2 ∧ a3 = b3 ∧ a4 = b4 ∧ a5 = b5) := by
  rw [Bool.eq_iff_iff]
  unfold eqB_op
  simp [eqB_name_iff, and_assoc]
def eqB_pk (a0 b0 : Int) (a1 b1 : Int) : Bool := ((a0 == b0) && ((a1 == b1) && true))
theorem held_pk : Tryd.prog.stoodInHeld 47 = false := by kernel_rfl
theorem und_pk : Tryd.prog.underlying 47 = some (.struct (Tryd.prog.fieldsOf 47)) := by kernel_rfl
theorem names_pk : (Tryd.prog.fieldsOf 47).toList.map (fun f => (f.name == "_", f.type, f.offset)) = [(false, 3, 0), (false, 3, 1)] := by kernel_rfl
theorem infos_pk : ∃ i, Tryd.prog.info? 47 = some i := Option.isSome_iff_exists.1 (by kernel_rfl)
theorem size_pk : Tryd.prog.cellsOf 47 = 2 := by kernel_rfl
theorem equalIn_pk (d : Nat) (a0 b0 : Int) (a1 b1 : Int) (w : World) : (Op.equalIn (d + 2) 47 (.agg #[.int .i64 a0, .int .i64 a1]) (.agg #[.int .i64 b0, .int .i64 b1])).run Tryd.prog w = .ok (eqB_pk a0 b0 a1 b1) w := by
  rw [run_equalIn_struct (P := Tryd.prog) w (d + 1) 47 _ _ und_pk held_pk, eqFields_eqD Tryd.prog, names_pk]
  unfold eqB_pk
  refine eqD_cons (part_one Tryd.underlying3 rfl rfl) (part_one Tryd.underlying3 rfl rfl) (run_equalIn_int w _ _ _ _ _ _ Tryd.underlying3) ?_
  refine eqD_cons (part_one Tryd.underlying3 rfl rfl) (part_one Tryd.underlying3 rfl rfl) (run_equalIn_int w _ _ _ _ _ _ Tryd.underlying3) ?_
  exact eqD_nil
theorem run_eql_pk (a0 b0 : Int) (a1 b1 : Int) (w : World) : (binOp .eql 47 (.agg #[.int .i64 a0, .int .i64 a1]) (.agg #[.int .i64 b0, .int .i64 b1])).run Tryd.prog w = .ok (.bool (eqB_pk a0 b0 a1 b1)) w := by
  have h := equalIn_pk 9998 a0 b0 a1 b1 w
  simp only [binOp]
  simp [Op.equal, Op.maxDepth, h]
theorem run_neq_pk (a0 b0 : Int) (a1 b1 : Int) (w : World) : (binOp .neq 47 (.agg #[.int .i64 a0, .int .i64 a1]) (.agg #[.int .i64 b0, .int .i64 b1])).run Tryd.prog w = .ok (.bool !(eqB_pk a0 b0 a1 b1)) w := by
  have h := equalIn_pk 9998 a0 b0 a1 b1 w
  simp only [binOp]
  simp [Op.equal, Op.maxDepth, h]
theorem eqB_pk_iff (a0 b0 : Int) (a1 b1 : Int) : eqB_pk a0 b0 a1 b1 = decide (a0 = b0 ∧ a1 = b1) := by
  rw [Bool.eq_iff_iff]
  unfold eqB_pk
  simp
def eqB_caps (a0 b0 : Int) (a1 b1 : Int) (a2 b2 : Int) (a3 b3 : Int) : Bool := ((a0 == b0) && ((a1 == b1) && ((a2 == b2) && ((a3 == b3) && true))))
theorem held_caps : Tryd.prog.stoodInHeld 28 = false := by kernel_rfl
theorem und_caps : Tryd.prog.underlying 28 = some (.struct (Tryd.prog.fieldsOf 28)) := by kernel_rfl
theorem names_caps : (Tryd.prog.fieldsOf 28).toList.map (fun f => (f.name == "_", f.type, f.offset)) = [(false, 3, 0), (false, 3, 1), (false, 3, 2), (false, 3, 3)] := by kernel_rfl
theorem infos_caps : ∃ i, Tryd.prog.info? 28 = some i := Option.isSome_iff_exists.1 (by kernel_rfl)
theorem size_caps : Tryd.prog.cellsOf 28 = 4 := by kernel_rfl
theorem equalIn_caps (d : Nat) (a0 b0 : Int) (a1 b1 : Int) (a2 b2 : Int) (a3 b3 : Int) (w : World) : (Op.equalIn (d + 2) 28 (.agg #[.int .i64 a0, .int .i64 a1, .int .i64 a2, .int .i64 a3]) (.agg #[.int .i64 b0, .int .i64 b1, .int .i64 b2, .int .i64 b3])).run Tryd.prog w = .ok (eqB_caps a0 b0 a1 b1 a2 b2 a3 b3) w := by
  rw [run_equalIn_struct (P := Tryd.prog) w (d + 1) 28 _ _ und_caps held_caps, eqFields_eqD Tryd.prog, names_caps]
  unfold eqB_caps
  refine eqD_cons (part_one Tryd.underlying3 rfl rfl) (part_one Tryd.underlying3 rfl rfl) (run_equalIn_int w _ _ _ _ _ _ Tryd.underlying3) ?_
  refine eqD_cons (part_one Tryd.underlying3 rfl rfl) (part_one Tryd.underlying3 rfl rfl) (run_equalIn_int w _ _ _ _ _ _ Tryd.underlying3) ?_
  refine eqD_cons (part_one Tryd.underlying3 rfl rfl) (part_one Tryd.underlying3 rfl rfl) (run_equalIn_int w _ _ _ _ _ _ Tryd.underlying3) ?_
  refine eqD_cons (part_one Tryd.underlying3 rfl rfl) (part_one Tryd.underlying3 rfl rfl) (run_equalIn_int w _ _ _ _ _ _ Tryd.underlying3) ?_
  exact eqD_nil
theorem run_eql_caps (a0 b0 : Int) (a1 b1 : Int) (a2 b2 : Int) (a3 b3 : Int) (w : World) : (binOp .eql 28 (.agg #[.int .i64 a0, .int .i64 a1, .int .i64 a2, .int .i64 a3]) (.agg #[.int .i64 b0, .int .i64 b1, .int .i64 b2, .int .i64 b3])).run Tryd.prog w = .ok (.bool (eqB_caps a0 b0 a1 b1 a2 b2 a3 b3)) w := by
  have h := equalIn_caps 9998 a0 b0 a1 b1 a2 b2 a3 b3 w
  simp only [binOp]
  simp [Op.equal, Op.maxDepth, h]
theorem run_neq_caps (a0 b0 : Int) (a1 b1 : Int) (a2 b2 : Int) (a3 b3 : Int) (w : World) : (binOp .neq 28 (.agg #[.int .i64 a0, .int .i64 a1, .int .i64 a2, .int .i64 a3]) (.agg #[.int .i64 b0, .int .i64 b1, .int .i64 b2, .int .i64 b3])).run Tryd.prog w = .ok (.bool !(eqB_caps a0 b0 a1 b1 a2 b2 a3 b3)) w := by
  have h := equalIn_caps 9998 a0 b0 a1 b1 a2 b2 a3 b3 w
  simp only [binOp]
  simp [Op.equal, Op.maxDepth, h]
theorem eqB_caps_iff (a0 b0 : Int) (a1 b1 : Int) (a2 b2 : Int) (a3 b3 : Int) : eqB_caps a0 b0 a1 b1 a2 b2 a3 b3 = decide (a0 = b0 ∧ a1 = b1 ∧ a2 = b2 ∧ a3 = b3) := by
  rw [Bool.eq_iff_iff]
  unfold eqB_caps
  simp

theorem rl_at {α : Type} (enc : α → List Value) (sz : Nat) (hz : ∀ x, (enc x).length = sz) {w : World} {a : Option Addr} {n c : Nat} {l : List α} (h : RL w (.slice a n c) sz n (l.flatMap enc)) (h0 : 0 < n) : ∃ b off, a = some ⟨b, off, none⟩ ∧ b < w.heap.size ∧ ∀ k x, l[k]? = some x → ∀ j u, (enc x)[j]? = some u → w.cell? ⟨b, off + (k * sz + j), none⟩ = some u := by
  obtain ⟨_, a', c', hv, _, _, hr⟩ := h
  injection hv with e1 e2 e3
  subst e1 e3
  obtain ⟨b, off, ha, hlt, hc⟩ := hr h0
  refine ⟨b, off, ha, hlt, fun k x hx j u hu => hc _ _ ?_⟩
  have hj : j < sz := by
    rcases Nat.lt_or_ge j (enc x).length with h | h
    · rwa [hz] at h
    · rw [List.getElem?_eq_none h] at hu; cases hu
  rw [flat_at enc sz hz l k j x hx hj, hu]
theorem oC_len (x : Oq) : (oC x).length = 6 := rfl
theorem pC_len (x : Int × Int) : (pC x).length = 2 := rfl
theorem op_cells {w : World} {a : Option Addr} {n c : Nat} {l : List Oq} (hv : RL w (.slice a n c) 6 n (l.flatMap oC)) (_hn : l.length = n) (h0 : 0 < n) : ∃ b off, a = some ⟨b, off, none⟩ ∧ b < w.heap.size ∧ ∀ k x, l[k]? = some x → w.cell? ⟨b, off + (k * 6 + 0), none⟩ = some (.int .i64 x.kind) ∧ w.cell? ⟨b, off + (k * 6 + 1), none⟩ = some (.int .i64 x.tab) ∧ w.cell? ⟨b, off + (k * 6 + 2), none⟩ = some (.int .i64 x.row) ∧ w.cell? ⟨b, off + (k * 6 + 3), none⟩ = some (.int .i64 x.mode) ∧ w.cell? ⟨b, off + (k * 6 + 4), none⟩ = some (.int .i64 x.value) ∧ w.cell? ⟨b, off + (k * 6 + 5), none⟩ = some (.int .i64 x.wait) := by
  obtain ⟨b, off, h1, h2, h3⟩ := rl_at oC 6 oC_len hv h0
  exact ⟨b, off, h1, h2, fun k x hx => ⟨h3 k x hx 0 _ rfl, h3 k x hx 1 _ rfl, h3 k x hx 2 _ rfl, h3 k x hx 3 _ rfl, h3 k x hx 4 _ rfl, h3 k x hx 5 _ rfl⟩⟩
theorem pk_cells {w : World} {a : Option Addr} {n c : Nat} {l : List (Int × Int)} (hv : RL w (.slice a n c) 2 n (l.flatMap pC)) (_hn : l.length = n) (h0 : 0 < n) : ∃ b off, a = some ⟨b, off, none⟩ ∧ b < w.heap.size ∧ ∀ k x, l[k]? = some x → w.cell? ⟨b, off + (k * 2 + 0), none⟩ = some (.int .i64 x.1) ∧ w.cell? ⟨b, off + (k * 2 + 1), none⟩ = some (.int .i64 x.2) := by
  obtain ⟨b, off, h1, h2, h3⟩ := rl_at pC 2 pC_len hv h0
  exact ⟨b, off, h1, h2, fun k x hx => ⟨h3 k x hx 0 _ rfl, h3 k x hx 1 _ rfl⟩⟩
theorem row_ext {α : Type} {xs ys : List α} (hl : xs.length = ys.length) (h : ∀ j, j < xs.length → xs[j]? = ys[j]?) : xs = ys := by
  apply List.ext_getElem?
  intro i
  by_cases hi : i < xs.length
  · exact h i hi
  · rw [List.getElem?_eq_none (by omega), List.getElem?_eq_none (by omega)]
set_option maxHeartbeats 4000000 in
set_option maxRecDepth 100000 in
theorem same_op (u v : Value) (xs ys : List Oq) (w : World) (hn : xs.length ≤ 100000) (hu : RL w u 6 xs.length (xs.flatMap oC)) (hv : RL w v 6 ys.length (ys.flatMap oC)) :
   Calls Tryd.prog 26 #[u, v] w fun e w' => e = .returned (.bool (decide (xs = ys))) ∧ Below w.heap.size w w' := by
  obtain ⟨_, a, c, rfl, _⟩ := id hu
  obtain ⟨_, a', c', rfl, _⟩ := id hv
  by_cases hlen : xs.length = ys.length
  · have hne := Lib.hid (fun (k : Nat) (h : xs[k]? ≠ ys[k]?) => (show decide (xs = ys) = false from decide_eq_false (fun e => h (by rw [e]))))
    have heq := Lib.hid (fun (h : ∀ j, j < xs.length → xs[j]? = ys[j]?) => (show decide (xs = ys) = true from decide_eq_true (row_ext hlen h)))
    obtain ⟨n, hl⟩ : ∃ n, xs.length = n := ⟨_, rfl⟩
    rw [hl] at hlen heq hn
    rw [← hlen] at hv ⊢
    rw [hl] at hu ⊢
    have HR := Lib.hid hu
    have HR' := Lib.hid hv
    replace hl := Lib.hid hl
    have hl' := Lib.hid hlen.symm
    clear hlen hu hv
    generalize decide (xs = ys) = b at *
    go_enter Tryd.func26, Tryd.ntmps26
    go_wp2
    go_loopw [5] (fun i w1 => ∃ k : Nat, k ≤ n ∧ i = .int .i64 k ∧ Hid (∀ j, j < k → xs[j]? = ys[j]?) ∧ Hid (Below w.heap.size w w1)) (fun i _ => n - (intOf i).toNat)
    case atStart => exact ⟨0, Nat.zero_le _, rfl, Lib.hid (fun j hj => absurd hj (by omega)), Below.refl _ _⟩
    case round =>
      obtain ⟨k, hk, rfl, hp, hb⟩ := hrel
      by_cases hlt : k < n
      · obtain ⟨b1, off, rfl, l1, hc⟩ := op_cells HR.out hl.out (by omega)
        obtain ⟨b2, off', rfl, l2, hc'⟩ := op_cells HR'.out hl'.out (by omega)
        obtain ⟨x, hx⟩ : ∃ x, xs[k]? = some x := ⟨xs[k]'(by rw [hl.out]; exact hlt), List.getElem?_eq_getElem _⟩
        obtain ⟨y, hy⟩ : ∃ y, ys[k]? = some y := ⟨ys[k]'(by rw [hl'.out]; exact hlt), List.getElem?_eq_getElem _⟩
        obtain ⟨x0, x1, x2, x3, x4, x5⟩ := hc k x hx
        obtain ⟨y0, y1, y2, y3, y4, y5⟩ := hc' k y hy
        have k1 : ∀ o, w.cell? ⟨b1, o, none⟩ = wr.cell? ⟨b1, o, none⟩ := fun o => (hb.out.cell (p := ⟨b1, o, none⟩) l1).symm
        have k2 : ∀ o, w.cell? ⟨b2, o, none⟩ = wr.cell? ⟨b2, o, none⟩ := fun o => (hb.out.cell (p := ⟨b2, o, none⟩) l2).symm
        rw [k1] at x0 x1 x2 x3 x4 x5
        rw [k2] at y0 y1 y2 y3 y4 y5
        simp only [← Nat.add_assoc, Nat.add_zero] at x0 x1 x2 x3 x4 x5 y0 y1 y2 y3 y4 y5
        have hq := fun W => run_neq_op x.kind y.kind x.tab y.tab x.row y.row x.mode y.mode x.value y.value x.wait y.wait W
        have hiff := eqB_op_iff x.kind y.kind x.tab y.tab x.row y.row x.mode y.mode x.value y.value x.wait y.wait
        generalize eqB_op x.kind y.kind x.tab y.tab x.row y.row x.mode y.mode x.value y.value x.wait y.wait = bb at hiff hq
        have hxy : (x.kind = y.kind ∧ x.tab = y.tab ∧ x.row = y.row ∧ x.mode = y.mode ∧ x.value = y.value ∧ x.wait = y.wait) ↔ x = y := by
          obtain ⟨a0, a1, a2, a3, a4, a5⟩ := x
          obtain ⟨c0, c1, c2, c3, c4, c5⟩ := y
          simp [and_assoc]
        have hne' := Lib.hid (fun h : ¬ x = y => hne.out k (by rw [hx, hy]; exact fun e => h (Option.some.inj e)))
        have hp' := Lib.hid (fun (h : x = y) (j : Nat) (hj : j < k + 1) => (show xs[j]? = ys[j]? from by
          by_cases e : j = k
          · rw [e, hx, hy, h]
          · exact hp.out j (by omega)))
        clear hc hc' HR HR' hne heq k1 k2 hx hy l1 l2
        have hk1 := Lib.hid (show k + 1 ≤ n from hlt)
        have i1 : (0 : Int) ≤ (k : Int) := by omega
        have i2 : (k : Int) < (n : Int) := by omega
        by_cases he : x = y
        · have hp2 := Lib.hid (hp'.out he)
          obtain rfl : bb = true := hiff.trans (decide_eq_true (hxy.2 he))
          clear hiff hxy
          clear hp' hne'
          replace he := Lib.hid he
          go_wp2_with fail
          go_quiet (fail)
          go_wp2_with fail
          go_roundw
          case rel => exact ⟨k+1, hk1.out, by go_num, hp2, hb.out.trans ((Keeps.drewN _ _).to_below.mono hb.out.size)⟩
          case measure => have := hk1.out; simp [intOf]; omega
        · have hb2 := Lib.hid (hne'.out he)
          obtain rfl : bb = false := hiff.trans (decide_eq_false fun e => he (hxy.1 e))
          clear hiff hxy
          clear hp' hne'
          replace he := Lib.hid he
          go_wp2_with fail
          go_quiet (fail)
          go_wp2_with fail
          go_ret
          exact ⟨by rw [hb2.out]; rfl, hb.out.trans ((Keeps.drewN _ _).to_below.mono hb.out.size)⟩
      · obtain rfl : k = n := by omega
        have hb2 := Lib.hid (heq.out hp.out)
        clear hne heq
        go_wp2
        go_ret
        exact ⟨by rw [hb2.out]; rfl, hb.out⟩
  · have hb := Lib.hid (show decide (xs = ys) = false from decide_eq_false (fun e => hlen (by rw [e])))
    have i1 : ¬ ((xs.length : Int) = (ys.length : Int)) := by omega
    generalize decide (xs = ys) = b at *
    clear hu hv
    go_enter Tryd.func26, Tryd.ntmps26
    go_wp2
    go_ret
    exact ⟨by rw [hb.out]; rfl, Below.refl _ _⟩
set_option maxHeartbeats 4000000 in
set_option maxRecDepth 100000 in
theorem same_pk (u v : Value) (xs ys : List (Int × Int)) (w : World) (hn : xs.length ≤ 100000) (hu : RL w u 2 xs.length (xs.flatMap pC)) (hv : RL w v 2 ys.length (ys.flatMap pC)) :
   Calls Tryd.prog 15 #[u, v] w fun e w' => e = .returned (.bool (decide (xs = ys))) ∧ Below w.heap.size w w' := by
  obtain ⟨_, a, c, rfl, _⟩ := id hu
  obtain ⟨_, a', c', rfl, _⟩ := id hv
  by_cases hlen : xs.length = ys.length
  · have hne := Lib.hid (fun (k : Nat) (h : xs[k]? ≠ ys[k]?) => (show decide (xs = ys) = false from decide_eq_false (fun e => h (by rw [e]))))
    have heq := Lib.hid (fun (h : ∀ j, j < xs.length → xs[j]? = ys[j]?) => (show decide (xs = ys) = true from decide_eq_true (row_ext hlen h)))
    obtain ⟨n, hl⟩ : ∃ n, xs.length = n := ⟨_, rfl⟩
    rw [hl] at hlen heq hn
    rw [← hlen] at hv ⊢
    rw [hl] at hu ⊢
    have HR := Lib.hid hu
    have HR' := Lib.hid hv
    replace hl := Lib.hid hl
    have hl' := Lib.hid hlen.symm
    clear hlen hu hv
    generalize decide (xs = ys) = b at *
    go_enter Tryd.func15, Tryd.ntmps15
    go_wp2
    go_loopw [5] (fun i w1 => ∃ k : Nat, k ≤ n ∧ i = .int .i64 k ∧ Hid (∀ j, j < k → xs[j]? = ys[j]?) ∧ Hid (Below w.heap.size w w1)) (fun i _ => n - (intOf i).toNat)
    case atStart => exact ⟨0, Nat.zero_le _, rfl, Lib.hid (fun j hj => absurd hj (by omega)), Below.refl _ _⟩
    case round =>
      obtain ⟨k, hk, rfl, hp, hb⟩ := hrel
      by_cases hlt : k < n
      · obtain ⟨b1, off, rfl, l1, hc⟩ := pk_cells HR.out hl.out (by omega)
        obtain ⟨b2, off', rfl, l2, hc'⟩ := pk_cells HR'.out hl'.out (by omega)
        obtain ⟨x, hx⟩ : ∃ x, xs[k]? = some x := ⟨xs[k]'(by rw [hl.out]; exact hlt), List.getElem?_eq_getElem _⟩
        obtain ⟨y, hy⟩ : ∃ y, ys[k]? = some y := ⟨ys[k]'(by rw [hl'.out]; exact hlt), List.getElem?_eq_getElem _⟩
        obtain ⟨x0, x1⟩ := hc k x hx
        obtain ⟨y0, y1⟩ := hc' k y hy
        have k1 : ∀ o, w.cell? ⟨b1, o, none⟩ = wr.cell? ⟨b1, o, none⟩ := fun o => (hb.out.cell (p := ⟨b1, o, none⟩) l1).symm
        have k2 : ∀ o, w.cell? ⟨b2, o, none⟩ = wr.cell? ⟨b2, o, none⟩ := fun o => (hb.out.cell (p := ⟨b2, o, none⟩) l2).symm
        rw [k1] at x0 x1
        rw [k2] at y0 y1
        simp only [← Nat.add_assoc, Nat.add_zero] at x0 x1 y0 y1
        have hq := fun W => run_neq_pk x.1 y.1 x.2 y.2 W
        have hiff := eqB_pk_iff x.1 y.1 x.2 y.2
        generalize eqB_pk x.1 y.1 x.2 y.2 = bb at hiff hq
        have hxy : (x.1 = y.1 ∧ x.2 = y.2) ↔ x = y := by
          obtain ⟨a0, a1⟩ := x
          obtain ⟨c0, c1⟩ := y
          simp [and_assoc]
        have hne' := Lib.hid (fun h : ¬ x = y => hne.out k (by rw [hx, hy]; exact fun e => h (Option.some.inj e)))
        have hp' := Lib.hid (fun (h : x = y) (j : Nat) (hj : j < k + 1) => (show xs[j]? = ys[j]? from by
          by_cases e : j = k
          · rw [e, hx, hy, h]
          · exact hp.out j (by omega)))
        clear hc hc' HR HR' hne heq k1 k2 hx hy l1 l2
        have hk1 := Lib.hid (show k + 1 ≤ n from hlt)
        have i1 : (0 : Int) ≤ (k : Int) := by omega
        have i2 : (k : Int) < (n : Int) := by omega
        by_cases he : x = y
        · have hp2 := Lib.hid (hp'.out he)
          obtain rfl : bb = true := hiff.trans (decide_eq_true (hxy.2 he))
          clear hiff hxy
          clear hp' hne'
          replace he := Lib.hid he
          go_wp2_with fail
          go_quiet (fail)
          go_wp2_with fail
          go_roundw
          case rel => exact ⟨k+1, hk1.out, by go_num, hp2, hb.out.trans ((Keeps.drewN _ _).to_below.mono hb.out.size)⟩
          case measure => have := hk1.out; simp [intOf]; omega
        · have hb2 := Lib.hid (hne'.out he)
          obtain rfl : bb = false := hiff.trans (decide_eq_false fun e => he (hxy.1 e))
          clear hiff hxy
          clear hp' hne'
          replace he := Lib.hid he
          go_wp2_with fail
          go_quiet (fail)
          go_wp2_with fail
          go_ret
          exact ⟨by rw [hb2.out]; rfl, hb.out.trans ((Keeps.drewN _ _).to_below.mono hb.out.size)⟩
      · obtain rfl : k = n := by omega
        have hb2 := Lib.hid (heq.out hp.out)
        clear hne heq
        go_wp2
        go_ret
        exact ⟨by rw [hb2.out]; rfl, hb.out⟩
  · have hb := Lib.hid (show decide (xs = ys) = false from decide_eq_false (fun e => hlen (by rw [e])))
    have i1 : ¬ ((xs.length : Int) = (ys.length : Int)) := by omega
    generalize decide (xs = ys) = b at *
    clear hu hv
    go_enter Tryd.func15, Tryd.ntmps15
    go_wp2
    go_ret
    exact ⟨by rw [hb.out]; rfl, Below.refl _ _⟩
set_option maxHeartbeats 4000000 in
set_option maxRecDepth 100000 in
theorem equal_op (u v : Value) (xs ys : List Oq) (w : World) (hn : xs.length ≤ 100000) (hu : RL w u 6 xs.length (xs.flatMap oC)) (hv : RL w v 6 ys.length (ys.flatMap oC)) :
   Calls Tryd.prog 38 #[u, v] w fun e w' => e = .returned (.bool (decide (xs = ys))) ∧ Below w.heap.size w w' := by
  obtain ⟨_, a, c, rfl, _⟩ := id hu
  obtain ⟨_, a', c', rfl, _⟩ := id hv
  by_cases hlen : xs.length = ys.length
  · have hne := Lib.hid (fun (k : Nat) (h : xs[k]? ≠ ys[k]?) => (show decide (xs = ys) = false from decide_eq_false (fun e => h (by rw [e]))))
    have heq := Lib.hid (fun (h : ∀ j, j < xs.length → xs[j]? = ys[j]?) => (show decide (xs = ys) = true from decide_eq_true (row_ext hlen h)))
    obtain ⟨n, hl⟩ : ∃ n, xs.length = n := ⟨_, rfl⟩
    rw [hl] at hlen heq hn
    rw [← hlen] at hv ⊢
    rw [hl] at hu ⊢
    have HR := Lib.hid hu
    have HR' := Lib.hid hv
    replace hl := Lib.hid hl
    have hl' := Lib.hid hlen.symm
    clear hlen hu hv
    generalize decide (xs = ys) = b at *
    go_enter Tryd.func38, Tryd.ntmps38
    go_wp2
    go_loopw [13] (fun i w1 => ∃ k : Nat, k ≤ n ∧ i = .int .i64 k ∧ Hid (∀ j, j < k → xs[j]? = ys[j]?) ∧ Hid (Below w.heap.size w w1)) (fun i _ => n - (intOf i).toNat)
    case atStart => exact ⟨0, Nat.zero_le _, rfl, Lib.hid (fun j hj => absurd hj (by omega)), Below.refl _ _⟩
    case round =>
      obtain ⟨k, hk, rfl, hp, hb⟩ := hrel
      by_cases hlt : k < n
      · obtain ⟨b1, off, rfl, l1, hc⟩ := op_cells HR.out hl.out (by omega)
        obtain ⟨b2, off', rfl, l2, hc'⟩ := op_cells HR'.out hl'.out (by omega)
        obtain ⟨x, hx⟩ : ∃ x, xs[k]? = some x := ⟨xs[k]'(by rw [hl.out]; exact hlt), List.getElem?_eq_getElem _⟩
        obtain ⟨y, hy⟩ : ∃ y, ys[k]? = some y := ⟨ys[k]'(by rw [hl'.out]; exact hlt), List.getElem?_eq_getElem _⟩
        obtain ⟨x0, x1, x2, x3, x4, x5⟩ := hc k x hx
        obtain ⟨y0, y1, y2, y3, y4, y5⟩ := hc' k y hy
        have k1 : ∀ o, w.cell? ⟨b1, o, none⟩ = wr.cell? ⟨b1, o, none⟩ := fun o => (hb.out.cell (p := ⟨b1, o, none⟩) l1).symm
        have k2 : ∀ o, w.cell? ⟨b2, o, none⟩ = wr.cell? ⟨b2, o, none⟩ := fun o => (hb.out.cell (p := ⟨b2, o, none⟩) l2).symm
        rw [k1] at x0 x1 x2 x3 x4 x5
        rw [k2] at y0 y1 y2 y3 y4 y5
        simp only [← Nat.add_assoc, Nat.add_zero] at x0 x1 x2 x3 x4 x5 y0 y1 y2 y3 y4 y5
        have hq := fun W => run_neq_op x.kind y.kind x.tab y.tab x.row y.row x.mode y.mode x.value y.value x.wait y.wait W
        have hiff := eqB_op_iff x.kind y.kind x.tab y.tab x.row y.row x.mode y.mode x.value y.value x.wait y.wait
        generalize eqB_op x.kind y.kind x.tab y.tab x.row y.row x.mode y.mode x.value y.value x.wait y.wait = bb at hiff hq
        have hxy : (x.kind = y.kind ∧ x.tab = y.tab ∧ x.row = y.row ∧ x.mode = y.mode ∧ x.value = y.value ∧ x.wait = y.wait) ↔ x = y := by
          obtain ⟨a0, a1, a2, a3, a4, a5⟩ := x
          obtain ⟨c0, c1, c2, c3, c4, c5⟩ := y
          simp [and_assoc]
        have hne' := Lib.hid (fun h : ¬ x = y => hne.out k (by rw [hx, hy]; exact fun e => h (Option.some.inj e)))
        have hp' := Lib.hid (fun (h : x = y) (j : Nat) (hj : j < k + 1) => (show xs[j]? = ys[j]? from by
          by_cases e : j = k
          · rw [e, hx, hy, h]
          · exact hp.out j (by omega)))
        clear hc hc' HR HR' hne heq k1 k2 hx hy l1 l2
        have hk1 := Lib.hid (show k + 1 ≤ n from hlt)
        have i1 : (0 : Int) ≤ (k : Int) := by omega
        have i2 : (k : Int) < (n : Int) := by omega
        by_cases he : x = y
        · have hp2 := Lib.hid (hp'.out he)
          obtain rfl : bb = true := hiff.trans (decide_eq_true (hxy.2 he))
          clear hiff hxy
          clear hp' hne'
          replace he := Lib.hid he
          go_wp2_with fail
          go_quiet (fail)
          go_wp2_with fail
          go_roundw
          case rel => exact ⟨k+1, hk1.out, by go_num, hp2, hb.out.trans ((Keeps.drewN _ _).to_below.mono hb.out.size)⟩
          case measure => have := hk1.out; simp [intOf]; omega
        · have hb2 := Lib.hid (hne'.out he)
          obtain rfl : bb = false := hiff.trans (decide_eq_false fun e => he (hxy.1 e))
          clear hiff hxy
          clear hp' hne'
          replace he := Lib.hid he
          go_wp2_with fail
          go_quiet (fail)
          go_wp2_with fail
          go_ret
          exact ⟨by rw [hb2.out]; rfl, hb.out.trans ((Keeps.drewN _ _).to_below.mono hb.out.size)⟩
      · obtain rfl : k = n := by omega
        have hb2 := Lib.hid (heq.out hp.out)
        clear hne heq
        go_wp2
        go_ret
        exact ⟨by rw [hb2.out]; rfl, hb.out⟩
  · have hb := Lib.hid (show decide (xs = ys) = false from decide_eq_false (fun e => hlen (by rw [e])))
    have i1 : ¬ ((xs.length : Int) = (ys.length : Int)) := by omega
    generalize decide (xs = ys) = b at *
    clear hu hv
    go_enter Tryd.func38, Tryd.ntmps38
    go_wp2
    go_ret
    exact ⟨by rw [hb.out]; rfl, Below.refl _ _⟩
set_option maxHeartbeats 4000000 in
set_option maxRecDepth 100000 in
theorem equal_pk (u v : Value) (xs ys : List (Int × Int)) (w : World) (hn : xs.length ≤ 100000) (hu : RL w u 2 xs.length (xs.flatMap pC)) (hv : RL w v 2 ys.length (ys.flatMap pC)) :
   Calls Tryd.prog 36 #[u, v] w fun e w' => e = .returned (.bool (decide (xs = ys))) ∧ Below w.heap.size w w' := by
  obtain ⟨_, a, c, rfl, _⟩ := id hu
  obtain ⟨_, a', c', rfl, _⟩ := id hv
  by_cases hlen : xs.length = ys.length
  · have hne := Lib.hid (fun (k : Nat) (h : xs[k]? ≠ ys[k]?) => (show decide (xs = ys) = false from decide_eq_false (fun e => h (by rw [e]))))
    have heq := Lib.hid (fun (h : ∀ j, j < xs.length → xs[j]? = ys[j]?) => (show decide (xs = ys) = true from decide_eq_true (row_ext hlen h)))
    obtain ⟨n, hl⟩ : ∃ n, xs.length = n := ⟨_, rfl⟩
    rw [hl] at hlen heq hn
    rw [← hlen] at hv ⊢
    rw [hl] at hu ⊢
    have HR := Lib.hid hu
    have HR' := Lib.hid hv
    replace hl := Lib.hid hl
    have hl' := Lib.hid hlen.symm
    clear hlen hu hv
    generalize decide (xs = ys) = b at *
    go_enter Tryd.func36, Tryd.ntmps36
    go_wp2
    go_loopw [13] (fun i w1 => ∃ k : Nat, k ≤ n ∧ i = .int .i64 k ∧ Hid (∀ j, j < k → xs[j]? = ys[j]?) ∧ Hid (Below w.heap.size w w1)) (fun i _ => n - (intOf i).toNat)
    case atStart => exact ⟨0, Nat.zero_le _, rfl, Lib.hid (fun j hj => absurd hj (by omega)), Below.refl _ _⟩
    case round =>
      obtain ⟨k, hk, rfl, hp, hb⟩ := hrel
      by_cases hlt : k < n
      · obtain ⟨b1, off, rfl, l1, hc⟩ := pk_cells HR.out hl.out (by omega)
        obtain ⟨b2, off', rfl, l2, hc'⟩ := pk_cells HR'.out hl'.out (by omega)
        obtain ⟨x, hx⟩ : ∃ x, xs[k]? = some x := ⟨xs[k]'(by rw [hl.out]; exact hlt), List.getElem?_eq_getElem _⟩
        obtain ⟨y, hy⟩ : ∃ y, ys[k]? = some y := ⟨ys[k]'(by rw [hl'.out]; exact hlt), List.getElem?_eq_getElem _⟩
        obtain ⟨x0, x1⟩ := hc k x hx
        obtain ⟨y0, y1⟩ := hc' k y hy
        have k1 : ∀ o, w.cell? ⟨b1, o, none⟩ = wr.cell? ⟨b1, o, none⟩ := fun o => (hb.out.cell (p := ⟨b1, o, none⟩) l1).symm
        have k2 : ∀ o, w.cell? ⟨b2, o, none⟩ = wr.cell? ⟨b2, o, none⟩ := fun o => (hb.out.cell (p := ⟨b2, o, none⟩) l2).symm
        rw [k1] at x0 x1
        rw [k2] at y0 y1
        simp only [← Nat.add_assoc, Nat.add_zero] at x0 x1 y0 y1
        have hq := fun W => run_neq_pk x.1 y.1 x.2 y.2 W
        have hiff := eqB_pk_iff x.1 y.1 x.2 y.2
        generalize eqB_pk x.1 y.1 x.2 y.2 = bb at hiff hq
        have hxy : (x.1 = y.1 ∧ x.2 = y.2) ↔ x = y := by
          obtain ⟨a0, a1⟩ := x
          obtain ⟨c0, c1⟩ := y
          simp [and_assoc]
        have hne' := Lib.hid (fun h : ¬ x = y => hne.out k (by rw [hx, hy]; exact fun e => h (Option.some.inj e)))
        have hp' := Lib.hid (fun (h : x = y) (j : Nat) (hj : j < k + 1) => (show xs[j]? = ys[j]? from by
          by_cases e : j = k
          · rw [e, hx, hy, h]
          · exact hp.out j (by omega)))
        clear hc hc' HR HR' hne heq k1 k2 hx hy l1 l2
        have hk1 := Lib.hid (show k + 1 ≤ n from hlt)
        have i1 : (0 : Int) ≤ (k : Int) := by omega
        have i2 : (k : Int) < (n : Int) := by omega
        by_cases he : x = y
        · have hp2 := Lib.hid (hp'.out he)
          obtain rfl : bb = true := hiff.trans (decide_eq_true (hxy.2 he))
          clear hiff hxy
          clear hp' hne'
          replace he := Lib.hid he
          go_wp2_with fail
          go_quiet (fail)
          go_wp2_with fail
          go_roundw
          case rel => exact ⟨k+1, hk1.out, by go_num, hp2, hb.out.trans ((Keeps.drewN _ _).to_below.mono hb.out.size)⟩
          case measure => have := hk1.out; simp [intOf]; omega
        · have hb2 := Lib.hid (hne'.out he)
          obtain rfl : bb = false := hiff.trans (decide_eq_false fun e => he (hxy.1 e))
          clear hiff hxy
          clear hp' hne'
          replace he := Lib.hid he
          go_wp2_with fail
          go_quiet (fail)
          go_wp2_with fail
          go_ret
          exact ⟨by rw [hb2.out]; rfl, hb.out.trans ((Keeps.drewN _ _).to_below.mono hb.out.size)⟩
      · obtain rfl : k = n := by omega
        have hb2 := Lib.hid (heq.out hp.out)
        clear hne heq
        go_wp2
        go_ret
        exact ⟨by rw [hb2.out]; rfl, hb.out⟩
  · have hb := Lib.hid (show decide (xs = ys) = false from decide_eq_false (fun e => hlen (by rw [e])))
    have i1 : ¬ ((xs.length : Int) = (ys.length : Int)) := by omega
    generalize decide (xs = ys) = b at *
    clear hu hv
    go_enter Tryd.func36, Tryd.ntmps36
    go_wp2
    go_ret
    exact ⟨by rw [hb.out]; rfl, Below.refl _ _⟩
end Go.Proofs.YtdpolejbceoldaaDoor
