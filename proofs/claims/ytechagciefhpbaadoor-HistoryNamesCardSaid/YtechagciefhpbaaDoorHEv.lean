/-
  Events, acts and spans as the proofs see them; their equality. No condition.
-/
import Derived.Test.YtechagciefhpbaaDoorRL
import Derived.Laws.StructEq
import Derived.ChangeKeysEq
namespace Go.Proofs.YtechagciefhpbaaDoor
set_option linter.unusedSimpArgs false
set_option linter.unusedVariables false
set_option linter.unnecessarySimpa false
open Go.RowKit
structure Ac where
  kind : Int
  txn : Int
  t : Int
  r : Int
  mode : Int
  code : Int
  deriving DecidableEq, Inhabited
structure Ev where
  call : Int
  thread : Int
  invoke : Bool
  act : Ac
  deriving DecidableEq, Inhabited
structure Sp where
  call : Int
  thread : Int
  from_ : Int
  to : Int
  act : Ac
  deriving DecidableEq, Inhabited
def Ac.cells (a : Ac) : List Value := [.int .i64 a.kind, .int .i64 a.txn, .int .i64 a.t, .int .i64 a.r, .int .i64 a.mode, .int .i64 a.code]
def Ac.val (a : Ac) : Value := .agg #[.int .i64 a.kind, .int .i64 a.txn, .int .i64 a.t, .int .i64 a.r, .int .i64 a.mode, .int .i64 a.code]
def Ev.cells (e : Ev) : List Value := [.int .i64 e.call, .int .i64 e.thread, .bool e.invoke, .int .i64 e.act.kind, .int .i64 e.act.txn, .int .i64 e.act.t, .int .i64 e.act.r, .int .i64 e.act.mode, .int .i64 e.act.code]
def Ev.val (e : Ev) : Value := .agg #[.int .i64 e.call, .int .i64 e.thread, .bool e.invoke, .int .i64 e.act.kind, .int .i64 e.act.txn, .int .i64 e.act.t, .int .i64 e.act.r, .int .i64 e.act.mode, .int .i64 e.act.code]
def Sp.cells (s : Sp) : List Value := [.int .i64 s.call, .int .i64 s.thread, .int .i64 s.from_, .int .i64 s.to, .int .i64 s.act.kind, .int .i64 s.act.txn, .int .i64 s.act.t, .int .i64 s.act.r, .int .i64 s.act.mode, .int .i64 s.act.code]
def Sp.val (s : Sp) : Value := .agg #[.int .i64 s.call, .int .i64 s.thread, .int .i64 s.from_, .int .i64 s.to, .int .i64 s.act.kind, .int .i64 s.act.txn, .int .i64 s.act.t, .int .i64 s.act.r, .int .i64 s.act.mode, .int .i64 s.act.code]
theorem ev_len (e : Ev) : e.cells.length = 9 := rfl
theorem sp_len (s : Sp) : s.cells.length = 10 := rfl
def ecells (l : List Ev) : List Value := l.flatMap Ev.cells
def scells (l : List Sp) : List Value := l.flatMap Sp.cells
def eqD (P : Program) (d : Nat) (xs ys : Array Value) : List (Bool × TypeId × Nat) → Sem Bool
  | [] => pure true
  | (b, t, o) :: ds =>
    if b = false then do
      let x ← part t xs o
      let y ← part t ys o
      let r ← Op.equalIn d t x y
      if (!r) = true then pure false else eqD P d xs ys ds
    else eqD P d xs ys ds
theorem eqFields_eqD (P : Program) (d : Nat) (xs ys : Array Value) : ∀ fs : List Field, Op.eqFields d xs ys fs = eqD P d xs ys (fs.map fun f => (f.name == "_", f.type, f.offset))
  | [] => rfl
  | f :: fs => by
    have ih := eqFields_eqD P d xs ys fs
    simp only [List.map_cons, Op.eqFields, eqD, ih, beq_eq_false_iff_ne]
theorem eqD_nil {P : Program} {d : Nat} {xs ys : Array Value} {w : World} : (eqD P d xs ys []).run P w = .ok true w := by simp [eqD]
theorem eqD_cons {P : Program} {d : Nat} {xs ys : Array Value} {t : TypeId} {o : Nat} {ds : List (Bool × TypeId × Nat)} {w : World} {x y : Value} {r s : Bool} (h1 : (part t xs o).run P w = .ok x w) (h2 : (part t ys o).run P w = .ok y w)
    (h3 : (Op.equalIn d t x y).run P w = .ok r w) (h4 : (eqD P d xs ys ds).run P w = .ok s w) : (eqD P d xs ys ((false, t, o) :: ds)).run P w = .ok (r && s) w := by
  cases r <;> simp [eqD, h1, h2, h3, h4, Result.andThen]
theorem part_one {P : Program} {t : TypeId} {xs : Array Value} {o : Nat} {v : Value} {w : World} {d : TypeDesc} (ht : P.underlying t = some d) (hd : (match d with | .struct _ | .array _ _ => false | _ => true) = true) (h : xs[o]? = some v) : (part t xs o).run P w = .ok v w := by
  cases d <;> simp_all [part, isAgg, run_underlying ht, Result.andThen]
theorem part_struct {P : Program} {t : TypeId} {xs : Array Value} {o n : Nat} {w : World} {fs : Array Field} {i : TypeInfo} (ht : P.underlying t = some (.struct fs)) (hi : P.info? t = some i) (hn : P.cellsOf t = n) : (part t xs o).run P w = .ok (.agg (xs.extract o (o + n))) w := by
  subst hn
  simp [part, isAgg, run_underlying ht, run_sizeOf w hi, Result.andThen]
def eqB_name (a0 b0 : Int) (a1 b1 : Int) : Bool := ((a0 == b0) && ((a1 == b1) && true))
theorem held_name : Tryd.prog.stoodInHeld 26 = false := by kernel_rfl
theorem und_name : Tryd.prog.underlying 26 = some (.struct (Tryd.prog.fieldsOf 26)) := by kernel_rfl
theorem names_name : (Tryd.prog.fieldsOf 26).toList.map (fun f => (f.name == "_", f.type, f.offset)) = [(false, 3, 0), (false, 3, 1)] := by kernel_rfl
theorem infos_name : ∃ i, Tryd.prog.info? 26 = some i := Option.isSome_iff_exists.1 (by kernel_rfl)
theorem size_name : Tryd.prog.cellsOf 26 = 2 := by kernel_rfl
theorem equalIn_name (d : Nat) (a0 b0 : Int) (a1 b1 : Int) (w : World) : (Op.equalIn (d + 2) 26 (.agg #[.int .i64 a0, .int .i64 a1]) (.agg #[.int .i64 b0, .int .i64 b1])).run Tryd.prog w = .ok (eqB_name a0 b0 a1 b1) w := by
  rw [run_equalIn_struct (P := Tryd.prog) w (d + 1) 26 _ _ und_name held_name, eqFields_eqD Tryd.prog, names_name]
  unfold eqB_name
  refine eqD_cons (part_one Tryd.underlying3 rfl rfl) (part_one Tryd.underlying3 rfl rfl) (run_equalIn_int w _ _ _ _ _ _ Tryd.underlying3) ?_
  refine eqD_cons (part_one Tryd.underlying3 rfl rfl) (part_one Tryd.underlying3 rfl rfl) (run_equalIn_int w _ _ _ _ _ _ Tryd.underlying3) ?_
  exact eqD_nil
theorem run_eql_name (a0 b0 : Int) (a1 b1 : Int) (w : World) : (binOp .eql 26 (.agg #[.int .i64 a0, .int .i64 a1]) (.agg #[.int .i64 b0, .int .i64 b1])).run Tryd.prog w = .ok (.bool (eqB_name a0 b0 a1 b1)) w := by
  have h := equalIn_name 9998 a0 b0 a1 b1 w
  simp only [binOp]
  simp [Op.equal, Op.maxDepth, h]
theorem run_neq_name (a0 b0 : Int) (a1 b1 : Int) (w : World) : (binOp .neq 26 (.agg #[.int .i64 a0, .int .i64 a1]) (.agg #[.int .i64 b0, .int .i64 b1])).run Tryd.prog w = .ok (.bool !(eqB_name a0 b0 a1 b1)) w := by
  have h := equalIn_name 9998 a0 b0 a1 b1 w
  simp only [binOp]
  simp [Op.equal, Op.maxDepth, h]
theorem eqB_name_iff (a0 b0 : Int) (a1 b1 : Int) : eqB_name a0 b0 a1 b1 = decide (a0 = b0 ∧ a1 = b1) := by
  rw [Bool.eq_iff_iff]
  unfold eqB_name
  simp
def eqB_act (a0 b0 : Int) (a1 b1 : Int) (a2 b2 : Int) (a3 b3 : Int) (a4 b4 : Int) (a5 b5 : Int) : Bool := ((a0 == b0) && ((a1 == b1) && ((eqB_name a2 b2 a3 b3) && ((a4 == b4) && ((a5 == b5) && true)))))
theorem held_act : Tryd.prog.stoodInHeld 29 = false := by kernel_rfl
theorem und_act : Tryd.prog.underlying 29 = some (.struct (Tryd.prog.fieldsOf 29)) := by kernel_rfl
theorem names_act : (Tryd.prog.fieldsOf 29).toList.map (fun f => (f.name == "_", f.type, f.offset)) = [(false, 3, 0), (false, 3, 1), (false, 26, 2), (false, 27, 4), (false, 3, 5)] := by kernel_rfl
theorem infos_act : ∃ i, Tryd.prog.info? 29 = some i := Option.isSome_iff_exists.1 (by kernel_rfl)
theorem size_act : Tryd.prog.cellsOf 29 = 6 := by kernel_rfl
theorem equalIn_act (d : Nat) (a0 b0 : Int) (a1 b1 : Int) (a2 b2 : Int) (a3 b3 : Int) (a4 b4 : Int) (a5 b5 : Int) (w : World) : (Op.equalIn (d + 3) 29 (.agg #[.int .i64 a0, .int .i64 a1, .int .i64 a2, .int .i64 a3, .int .i64 a4, .int .i64 a5]) (.agg #[.int .i64 b0, .int .i64 b1, .int .i64 b2, .int .i64 b3, .int .i64 b4, .int .i64 b5])).run Tryd.prog w = .ok (eqB_act a0 b0 a1 b1 a2 b2 a3 b3 a4 b4 a5 b5) w := by
  rw [run_equalIn_struct (P := Tryd.prog) w (d + 2) 29 _ _ und_act held_act, eqFields_eqD Tryd.prog, names_act]
  unfold eqB_act
  refine eqD_cons (part_one Tryd.underlying3 rfl rfl) (part_one Tryd.underlying3 rfl rfl) (run_equalIn_int w _ _ _ _ _ _ Tryd.underlying3) ?_
  refine eqD_cons (part_one Tryd.underlying3 rfl rfl) (part_one Tryd.underlying3 rfl rfl) (run_equalIn_int w _ _ _ _ _ _ Tryd.underlying3) ?_
  obtain ⟨i2, hi2⟩ := infos_name
  refine eqD_cons (part_struct und_name hi2 size_name) (part_struct und_name hi2 size_name) (equalIn_name (d + 0) a2 b2 a3 b3 w) ?_
  refine eqD_cons (part_one Tryd.underlying27 rfl rfl) (part_one Tryd.underlying27 rfl rfl) (run_equalIn_int w _ _ _ _ _ _ Tryd.underlying27) ?_
  refine eqD_cons (part_one Tryd.underlying3 rfl rfl) (part_one Tryd.underlying3 rfl rfl) (run_equalIn_int w _ _ _ _ _ _ Tryd.underlying3) ?_
  exact eqD_nil
theorem run_eql_act (a0 b0 : Int) (a1 b1 : Int) (a2 b2 : Int) (a3 b3 : Int) (a4 b4 : Int) (a5 b5 : Int) (w : World) : (binOp .eql 29 (.agg #[.int .i64 a0, .int .i64 a1, .int .i64 a2, .int .i64 a3, .int .i64 a4, .int .i64 a5]) (.agg #[.int .i64 b0, .int .i64 b1, .int .i64 b2, .int .i64 b3, .int .i64 b4, .int .i64 b5])).run Tryd.prog w = .ok (.bool (eqB_act a0 b0 a1 b1 a2 b2 a3 b3 a4 b4 a5 b5)) w := by
  have h := equalIn_act 9997 a0 b0 a1 b1 a2 b2 a3 b3 a4 b4 a5 b5 w
  simp only [binOp]
  simp [Op.equal, Op.maxDepth, h]
theorem run_neq_act (a0 b0 : Int) (a1 b1 : Int) (a2 b2 : Int) (a3 b3 : Int) (a4 b4 : Int) (a5 b5 : Int) (w : World) : (binOp .neq 29 (.agg #[.int .i64 a0, .int .i64 a1, .int .i64 a2, .int .i64 a3, .int .i64 a4, .int .i64 a5]) (.agg #[.int .i64 b0, .int .i64 b1, .int .i64 b2, .int .i64 b3, .int .i64 b4, .int .i64 b5])).run Tryd.prog w = .ok (.bool !(eqB_act a0 b0 a1 b1 a2 b2 a3 b3 a4 b4 a5 b5)) w := by
  have h := equalIn_act 9997 a0 b0 a1 b1 a2 b2 a3 b3 a4 b4 a5 b5 w
  simp only [binOp]
  simp [Op.equal, Op.maxDepth, h]
theorem eqB_act_iff (a0 b0 : Int) (a1 b1 : Int) (a2 b2 : Int) (a3 b3 : Int) (a4 b4 : Int) (a5 b5 : Int) : eqB_act a0 b0 a1 b1 a2 b2 a3 b3 a4 b4 a5 b5 = decide (a0 = b0 ∧ a1 = b1 ∧ a2 = b2 ∧ a3 = b3 ∧ a4 = b4 ∧ a5 = b5) := by
  rw [Bool.eq_iff_iff]
  unfold eqB_act
  simp [eqB_name_iff, and_assoc]
def eqB_span (a0 b0 : Int) (a1 b1 : Int) (a2 b2 : Int) (a3 b3 : Int) (a4 b4 : Int) (a5 b5 : Int) (a6 b6 : Int) (a7 b7 : Int) (a8 b8 : Int) (a9 b9 : Int) : Bool := ((a0 == b0) && ((a1 == b1) && ((a2 == b2) && ((a3 == b3) && ((eqB_act a4 b4 a5 b5 a6 b6 a7 b7 a8 b8 a9 b9) && true)))))
theorem held_span : Tryd.prog.stoodInHeld 45 = false := by kernel_rfl
theorem und_span : Tryd.prog.underlying 45 = some (.struct (Tryd.prog.fieldsOf 45)) := by kernel_rfl
theorem names_span : (Tryd.prog.fieldsOf 45).toList.map (fun f => (f.name == "_", f.type, f.offset)) = [(false, 3, 0), (false, 3, 1), (false, 3, 2), (false, 3, 3), (false, 29, 4)] := by kernel_rfl
theorem infos_span : ∃ i, Tryd.prog.info? 45 = some i := Option.isSome_iff_exists.1 (by kernel_rfl)
theorem size_span : Tryd.prog.cellsOf 45 = 10 := by kernel_rfl
theorem equalIn_span (d : Nat) (a0 b0 : Int) (a1 b1 : Int) (a2 b2 : Int) (a3 b3 : Int) (a4 b4 : Int) (a5 b5 : Int) (a6 b6 : Int) (a7 b7 : Int) (a8 b8 : Int) (a9 b9 : Int) (w : World) : (Op.equalIn (d + 4) 45 (.agg #[.int .i64 a0, .int .i64 a1, .int .i64 a2, .int .i64 a3, .int .i64 a4, .int .i64 a5, .int .i64 a6, .int .i64 a7, .int .i64 a8, .int .i64 a9]) (.agg #[.int .i64 b0, .int .i64 b1, .int .i64 b2, .int .i64 b3, .int .i64 b4, .int .i64 b5, .int .i64 b6, .int .i64 b7, .int .i64 b8, .int .i64 b9])).run Tryd.prog w = .ok (eqB_span a0 b0 a1 b1 a2 b2 a3 b3 a4 b4 a5 b5 a6 b6 a7 b7 a8 b8 a9 b9) w := by
  rw [run_equalIn_struct (P := Tryd.prog) w (d + 3) 45 _ _ und_span held_span, eqFields_eqD Tryd.prog, names_span]
  unfold eqB_span
  refine eqD_cons (part_one Tryd.underlying3 rfl rfl) (part_one Tryd.underlying3 rfl rfl) (run_equalIn_int w _ _ _ _ _ _ Tryd.underlying3) ?_
  refine eqD_cons (part_one Tryd.underlying3 rfl rfl) (part_one Tryd.underlying3 rfl rfl) (run_equalIn_int w _ _ _ _ _ _ Tryd.underlying3) ?_
  refine eqD_cons (part_one Tryd.underlying3 rfl rfl) (part_one Tryd.underlying3 rfl rfl) (run_equalIn_int w _ _ _ _ _ _ Tryd.underlying3) ?_
  refine eqD_cons (part_one Tryd.underlying3 rfl rfl) (part_one Tryd.underlying3 rfl rfl) (run_equalIn_int w _ _ _ _ _ _ Tryd.underlying3) ?_
  obtain ⟨i4, hi4⟩ := infos_act
  refine eqD_cons (part_struct und_act hi4 size_act) (part_struct und_act hi4 size_act) (equalIn_act (d + 0) a4 b4 a5 b5 a6 b6 a7 b7 a8 b8 a9 b9 w) ?_
  exact eqD_nil
theorem run_eql_span (a0 b0 : Int) (a1 b1 : Int) (a2 b2 : Int) (a3 b3 : Int) (a4 b4 : Int) (a5 b5 : Int) (a6 b6 : Int) (a7 b7 : Int) (a8 b8 : Int) (a9 b9 : Int) (w : World) : (binOp .eql 45 (.agg #[.int .i64 a0, .int .i64 a1, .int .i64 a2, .int .i64 a3, .int .i64 a4, .int .i64 a5, .int .i64 a6, .int .i64 a7, .int .i64 a8, .int .i64 a9]) (.agg #[.int .i64 b0, .int .i64 b1, .int .i64 b2, .int .i64 b3, .int .i64 b4, .int .i64 b5, .int .i64 b6, .int .i64 b7, .int .i64 b8, .int .i64 b9])).run Tryd.prog w = .ok (.bool (eqB_span a0 b0 a1 b1 a2 b2 a3 b3 a4 b4 a5 b5 a6 b6 a7 b7 a8 b8 a9 b9)) w := by
  have h := equalIn_span 9996 a0 b0 a1 b1 a2 b2 a3 b3 a4 b4 a5 b5 a6 b6 a7 b7 a8 b8 a9 b9 w
  simp only [binOp]
  simp [Op.equal, Op.maxDepth, h]
theorem run_neq_span (a0 b0 : Int) (a1 b1 : Int) (a2 b2 : Int) (a3 b3 : Int) (a4 b4 : Int) (a5 b5 : Int) (a6 b6 : Int) (a7 b7 : Int) (a8 b8 : Int) (a9 b9 : Int) (w : World) : (binOp .neq 45 (.agg #[.int .i64 a0, .int .i64 a1, .int .i64 a2, .int .i64 a3, .int .i64 a4, .int .i64 a5, .int .i64 a6, .int .i64 a7, .int .i64 a8, .int .i64 a9]) (.agg #[.int .i64 b0, .int .i64 b1, .int .i64 b2, .int .i64 b3, .int .i64 b4, .int .i64 b5, .int .i64 b6, .int .i64 b7, .int .i64 b8, .int .i64 b9])).run Tryd.prog w = .ok (.bool !(eqB_span a0 b0 a1 b1 a2 b2 a3 b3 a4 b4 a5 b5 a6 b6 a7 b7 a8 b8 a9 b9)) w := by
  have h := equalIn_span 9996 a0 b0 a1 b1 a2 b2 a3 b3 a4 b4 a5 b5 a6 b6 a7 b7 a8 b8 a9 b9 w
  simp only [binOp]
  simp [Op.equal, Op.maxDepth, h]
theorem eqB_span_iff (a0 b0 : Int) (a1 b1 : Int) (a2 b2 : Int) (a3 b3 : Int) (a4 b4 : Int) (a5 b5 : Int) (a6 b6 : Int) (a7 b7 : Int) (a8 b8 : Int) (a9 b9 : Int) : eqB_span a0 b0 a1 b1 a2 b2 a3 b3 a4 b4 a5 b5 a6 b6 a7 b7 a8 b8 a9 b9 = decide (a0 = b0 ∧ a1 = b1 ∧ a2 = b2 ∧ a3 = b3 ∧ a4 = b4 ∧ a5 = b5 ∧ a6 = b6 ∧ a7 = b7 ∧ a8 = b8 ∧ a9 = b9) := by
  rw [Bool.eq_iff_iff]
  unfold eqB_span
  simp [eqB_act_iff, and_assoc]
end Go.Proofs.YtechagciefhpbaaDoor
