/-
  Events, acts and spans as the proofs see them; their equality. No condition.
-/
import Derived.Test.YtechagciefhpbaaRL
import Derived.Laws.StructEq
import Derived.ChangeKeysEq
namespace Go.Proofs.Ytechagciefhpbaa
open Go.RowKit
structure Ac where
  kind : Int
  txn : Int
  t : Int
  r : Int
  mode : Int
  code : Int
  deriving DecidableEq, Inhabited
structure Ev where
  call : Int
  thread : Int
  invoke : Bool
  act : Ac
  deriving DecidableEq, Inhabited
structure Sp where
  call : Int
  thread : Int
  from_ : Int
  to : Int
  act : Ac
  deriving DecidableEq, Inhabited
def Ac.cells (a : Ac) : List Value := [.int .i64 a.kind, .int .i64 a.txn, .int .i64 a.t, .int .i64 a.r, .int .i64 a.mode, .int .i64 a.code]
def Ac.val (a : Ac) : Value := .agg #[.int .i64 a.kind, .int .i64 a.txn, .int .i64 a.t, .int .i64 a.r, .int .i64 a.mode, .int .i64 a.code]
def Ev.cells (e : Ev) : List Value := [.int .i64 e.call, .int .i64 e.thread, .bool e.invoke, .int .i64 e.act.kind, .int .i64 e.act.txn, .int .i64 e.act.t, .int .i64 e.act.r, .int .i64 e.act.mode, .int .i64 e.act.code]
def Ev.val (e : Ev) : Value := .agg #[.int .i64 e.call, .int .i64 e.thread, .bool e.invoke, .int .i64 e.act.kind, .int .i64 e.act.txn, .int .i64 e.act.t, .int .i64 e.act.r, .int .i64 e.act.mode, .int .i64 e.act.code]
def Sp.cells (s : Sp) : List Value := [.int .i64 s.call, .int .i64 s.thread, .int .i64 s.from_, .int .i64 s.to, .int .i64 s.act.kind, .int .i64 s.act.txn, .int .i64 s.act.t, .int .i64 s.act.r, .int .i64 s.act.mode, .int .i64 s.act.code]
def Sp.val (s : Sp) : Value := .agg #[.int .i64 s.call, .int .i64 s.thread, .int .i64 s.from_, .int .i64 s.to, .int .i64 s.act.kind, .int .i64 s.act.txn, .int .i64 s.act.t, .int .i64 s.act.r, .int .i64 s.act.mode, .int .i64 s.act.code]
theorem ev_len (e : Ev) : e.cells.length = 9 := rfl
theorem sp_len (s : Sp) : s.cells.length = 10 := rfl
def ecells (l : List Ev) : List Value := l.flatMap Ev.cells
def scells (l : List Sp) : List Value := l.flatMap Sp.cells
def eqD (P : Program) (d : Nat) (xs ys : Array Value) : List (Bool × TypeId × Nat) → Sem Bool
  | [] => pure true
  | (b, t, o) :: ds =>
    if b = false then do
      let x ← part t xs o
      let y ← part t ys o
      let r ← Op.equalIn d t x y
      if (!r) = true then pure false else eqD P d xs ys ds
    else eqD P d xs ys ds
theorem eqFields_eqD (P : Program) (d : Nat) (xs ys : Array Value) : ∀ fs : List Field, Op.eqFields d xs ys fs = eqD P d xs ys (fs.map fun f => (f.name == "_", f.type, f.offset))
  | [] => rfl
  | f :: fs => by
    have ih := eqFields_eqD P d xs ys fs
    simp only [List.map_cons, Op.eqFields, eqD, ih, beq_eq_false_iff_ne]
theorem eqD_nil {P : Program} {d : Nat} {xs ys : Array Value} {w : World} : (eqD P d xs ys []).run P w = .ok true w := by simp [eqD]
theorem eqD_cons {P : Program} {d : Nat} {xs ys : Array Value} {t : TypeId} {o : Nat} {ds : List (Bool × TypeId × Nat)} {w : World} {x y : Value} {r s : Bool} (h1 : (part t xs o).run P w = .ok x w) (h2 : (part t ys o).run P w = .ok y w)
    (h3 : (Op.equalIn d t x y).run P w = .ok r w) (h4 : (eqD P d xs ys ds).run P w = .ok s w) : (eqD P d xs ys ((false, t, o) :: ds)).run P w = .ok (r && s) w := by
  cases r <;> simp [eqD, h1, h2, h3, h4, Result.andThen]
theorem part_one {P : Program} {t : TypeId} {xs : Array Value} {o : Nat} {v : Value} {w : World} {d : TypeDesc} (ht : P.underlying t = some d) (hd : (match d with | .struct _ | .array _ _ => false | _ => true) = true) (h : xs[o]? = some v) : (part t xs o).run P w = .ok v w := by
  cases d <;> simp_all [part, isAgg, run_underlying ht, Result.andThen]
theorem part_struct {P : Program} {t : TypeId} {xs : Array Value} {o n : Nat} {w : World} {fs : Array Field} {i : TypeInfo} (ht : P.underlying t = some (.struct fs)) (hi : P.info? t = some i) (hn : P.cellsOf t = n) : (part t xs o).run P w = .ok (.agg (xs.extract o (o + n))) w := by
  subst hn
  simp [part, isAgg, run_underlying ht, run_sizeOf w hi, Result.andThen]
def eqB_name (a0 b0 : Int) (a1 b1 : Int) : Bool := ((a0 == b0) && ((a1 == b1) && true))
theorem held_name : Try.prog.stoodInHeld 31 = false := by kernel_rfl
theorem und_name : Try.prog.underlying 31 = some (.struct (Try.prog.fieldsOf 31)) := by kernel_rfl
theorem names_name : (Try.prog.fieldsOf 31).toList.map (fun f => (f.name == "_", f.type, f.offset)) = [(false, 3, 0), (false, 3, 1)] := by kernel_rfl
theorem infos_name : ∃ i, Try.prog.info? 31 = some i := Option.isSome_iff_exists.1 (by kernel_rfl)
theorem size_name : Try.prog.cellsOf 31 = 2 := by kernel_rfl
theorem equalIn_name (d : Nat) (a0 b0 : Int) (a1 b1 : Int) (w : World) : (Op.equalIn (d + 2) 31 (.agg #[.int .i64 a0, .int .i64 a1]) (.agg #[.int .i64 b0, .int .i64 b1])).run Try.prog w = .ok (eqB_name a0 b0 a1 b1) w := by
  rw [run_equalIn_struct (P := Try.prog) w (d + 1) 31 _ _ und_name held_name, eqFields_eqD Try.prog, names_name]
  unfold eqB_name
  refine eqD_cons (part_one Try.underlying3 rfl rfl) (part_one Try.underlying3 rfl rfl) (run_equalIn_int w _ _ _ _ _ _ Try.underlying3) ?_
  refine eqD_cons (part_one Try.underlying3 rfl rfl) (part_one Try.underlying3 rfl rfl) (run_equalIn_int w _ _ _ _ _ _ Try.underlying3) ?_
  exact eqD_nil
theorem run_eql_name (a0 b0 : Int) (a1 b1 : Int) (w : World) : (binOp .eql 31 (.agg #[.int .i64 a0, .int .i64 a1]) (.agg #[.int .i64 b0, .int .i64 b1])).run Try.prog w = .ok (.bool (eqB_name a0 b0 a1 b1)) w := by
  have h := equalIn_name 9998 a0 b0 a1 b1 w
  simp only [binOp]
  simp [Op.equal, Op.maxDepth, h]
theorem run_neq_name (a0 b0 : Int) (a1 b1 : Int) (w : World) : (binOp .neq 31 (.agg #[.int .i64 a0, .int .i64 a1]) (.agg #[.int .i64 b0, .int .i64 b1])).run Try.prog w = .ok (.bool !(eqB_name a0 b0 a1 b1)) w := by
  have h := equalIn_name 9998 a0 b0 a1 b1 w
  simp only [binOp]
  simp [Op.equal, Op.maxDepth, h]
theorem eqB_name_iff (a0 b0 : Int) (a1 b1 : Int) : eqB_name a0 b0 a1 b1 = decide (a0 = b0 ∧ a1 = b1) := by
  rw [Bool.eq_iff_iff]
  unfold eqB_name
  simp
def eqB_act (a0 b0 : Int) (a1 b1 : Int) (a2 b2 : Int) (a3 b3 : Int) (a4 b4 : Int) (a5 b5 : Int) : Bool := ((a0 == b0) && ((a1 == b1) && ((eqB_name a2 b2 a3 b3) && ((a4 == b4) && ((a5 == b5) && true)))))
theorem held_act : Try.prog.stoodInHeld 34 = false := by kernel_rfl
theorem und_act : Try.prog.underlying 34 = some (.struct (Try.prog.fieldsOf 34)) := by kernel_rfl
theorem names_act : (Try.prog.fieldsOf 34).toList.map (fun f => (f.name == "_", f.type, f.offset)) = [(false, 3, 0), (false, 3, 1), (false, 31, 2), (false, 32, 4), (false, 3, 5)] := by kernel_rfl
theorem infos_act : ∃ i, Try.prog.info? 34 = some i := Option.isSome_iff_exists.1 (by kernel_rfl)
theorem size_act : Try.prog.cellsOf 34 = 6 := by kernel_rfl
theorem equalIn_act (d : Nat) (a0 b0 : Int) (a1 b1 : Int) (a2 b2 : Int) (a3 b3 : Int) (a4 b4 : Int) (a5 b5 : Int) (w : World) : (Op.equalIn (d + 3) 34 (.agg #[.int .i64 a0, .int .i64 a1, .int .i64 a2, .int .i64 a3, .int .i64 a4, .int .i64 a5]) (.agg #[.int .i64 b0, .int .i64 b1, .int .i64 b2, .int .i64 b3, .int .i64 b4, .int .i64 b5])).run Try.prog w = .ok (eqB_act a0 b0 a1 b1 a2 b2 a3 b3 a4 b4 a5 b5) w := by
  rw [run_equalIn_struct (P := Try.prog) w (d + 2) 34 _ _ und_act held_act, eqFields_eqD Try.prog, names_act]
  unfold eqB_act
  refine eqD_cons (part_one Try.underlying3 rfl rfl) (part_one Try.underlying3 rfl rfl) (run_equalIn_int w _ _ _ _ _ _ Try.underlying3) ?_
  refine eqD_cons (part_one Try.underlying3 rfl rfl) (part_one Try.underlying3 rfl rfl) (run_equalIn_int w _ _ _ _ _ _ Try.underlying3) ?_
  obtain ⟨i2, hi2⟩ := infos_name
  refine eqD_cons (part_struct und_name hi2 size_name) (part_struct und_name hi2 size_name) (equalIn_name (d + 0) a2 b2 a3 b3 w) ?_
  refine eqD_cons (part_one Try.underlying32 rfl rfl) (part_one Try.underlying32 rfl rfl) (run_equalIn_int w _ _ _ _ _ _ Try.underlying32) ?_
  refine eqD_cons (part_one Try.underlying3 rfl rfl) (part_one Try.underlying3 rfl rfl) (run_equalIn_int w _ _ _ _ _ _ Try.underlying3) ?_
  exact eqD_nil
theorem run_eql_act (a0 b0 : Int) (a1 b1 : Int) (a2 b2 : Int) (a3 b3 : Int) (a4 b4 : Int) (a5 b5 : Int) (w : World) : (binOp .eql 34 (.agg #[.int .i64 a0, .int .i64 a1, .int .i64 a2, .int .i64 a3, .int .i64 a4, .int .i64 a5]) (.agg #[.int .i64 b0, .int .i64 b1, .int .i64 b2, .int .i64 b3, .int .i64 b4, .int .i64 b5])).run Try.prog w = .ok (.bool (eqB_act a0 b0 a1 b1 a2 b2 a3 b3 a4 b4 a5 b5)) w := by
  have h := equalIn_act 9997 a0 b0 a1 b1 a2 b2 a3 b3 a4 b4 a5 b5 w
  simp only [binOp]
  simp [Op.equal, Op.maxDepth, h]
theorem run_neq_act (a0 b0 : Int) (a1 b1 : Int) (a2 b2 : Int) (a3 b3 : Int) (a4 b4 : Int) (a5 b5 : Int) (w : World) : (binOp .neq 34 (.agg #[.int .i64 a0, .int .i64 a1, .int .i64 a2, .int .i64 a3, .int .i64 a4, .int .i64 a5]) (.agg #[.int .i64 b0, .int .i64 b1, .int .i64 b2, .int .i64 b3, .int .i64 b4, .int .i64 b5])).run Try.prog w = .ok (.bool !(eqB_act a0 b0 a1 b1 a2 b2 a3 b3 a4 b4 a5 b5)) w := by
  have h := equalIn_act 9997 a0 b0 a1 b1 a2 b2 a3 b3 a4 b4 a5 b5 w
  simp only [binOp]
  simp [Op.equal, Op.maxDepth, h]
theorem eqB_act_iff (a0 b0 : Int) (a1 b1 : Int) (a2 b2 : Int) (a3 b3 : Int) (a4 b4 : Int) (a5 b5 : Int) : eqB_act a0 b0 a1 b1 a2 b2 a3 b3 a4 b4 a5 b5 = decide (a0 = b0 ∧ a1 = b1 ∧ a2 = b2 ∧ a3 = b3 ∧ a4 = b4 ∧ a5 = b5) := by
  rw [Bool.eq_iff_iff]
  unfold eqB_act
  simp [eqB_name_iff, and_assoc]
def eqB_span (a0 b0 : Int) (a1 b1 : Int) (a2 b2 : Int) (a3 b3 : Int) (a4 b4 : Int) (a5 b5 : Int) (a6 b6 : Int) (a7 b7 : Int) (a8 b8 : Int) (a9 b9 : Int) : Bool := ((a0 == b0) && ((a1 == b1) && ((a2 == b2) && ((a3 == b3) && ((eqB_act a4 b4 a5 b5 a6 b6 a7 b7 a8 b8 a9 b9) && true)))))
theorem held_span : Try.prog.stoodInHeld 36 = false := by kernel_rfl
theorem und_span : Try.prog.underlying 36 = some (.struct (Try.prog.fieldsOf 36)) := by kernel_rfl
theorem names_span : (Try.prog.fieldsOf 36).toList.map (fun f => (f.name == "_", f.type, f.offset)) = [(false, 3, 0), (false, 3, 1), (false, 3, 2), (false, 3, 3), (false, 34, 4)] := by kernel_rfl
theorem infos_span : ∃ i, Try.prog.info? 36 = some i := Option.isSome_iff_exists.1 (by kernel_rfl)
theorem size_span : Try.prog.cellsOf 36 = 10 := by kernel_rfl
theorem equalIn_span (d : Nat) (a0 b0 : Int) (a1 b1 : Int) (a2 b2 : Int) (a3 b3 : Int) (a4 b4 : Int) (a5 b5 : Int) (a6 b6 : Int) (a7 b7 : Int) (a8 b8 : Int) (a9 b9 : Int) (w : World) : (Op.equalIn (d + 4) 36 (.agg #[.int .i64 a0, .int .i64 a1, .int .i64 a2, .int .i64 a3, .int .i64 a4, .int .i64 a5, .int .i64 a6, .int .i64 a7, .int .i64 a8, .int .i64 a9]) (.agg #[.int .i64 b0, .int .i64 b1, .int .i64 b2, .int .i64 b3, .int .i64 b4, .int .i64 b5, .int .i64 b6, .int .i64 b7, .int .i64 b8, .int .i64 b9])).run Try.prog w = .ok (eqB_span a0 b0 a1 b1 a2 b2 a3 b3 a4 b4 a5 b5 a6 b6 a7 b7 a8 b8 a9 b9) w := by
  rw [run_equalIn_struct (P := Try.prog) w (d + 3) 36 _ _ und_span held_span, eqFields_eqD Try.prog, names_span]
  unfold eqB_span
  refine eqD_cons (part_one Try.underlying3 rfl rfl) (part_one Try.underlying3 rfl rfl) (run_equalIn_int w _ _ _ _ _ _ Try.underlying3) ?_
  refine eqD_cons (part_one Try.underlying3 rfl rfl) (part_one Try.underlying3 rfl rfl) (run_equalIn_int w _ _ _ _ _ _ Try.underlying3) ?_
  refine eqD_cons (part_one Try.underlying3 rfl rfl) (part_one Try.underlying3 rfl rfl) (run_equalIn_int w _ _ _ _ _ _ Try.underlying3) ?_
  refine eqD_cons (part_one Try.underlying3 rfl rfl) (part_one Try.underlying3 rfl rfl) (run_equalIn_int w _ _ _ _ _ _ Try.underlying3) ?_
  obtain ⟨i4, hi4⟩ := infos_act
  refine eqD_cons (part_struct und_act hi4 size_act) (part_struct und_act hi4 size_act) (equalIn_act (d + 0) a4 b4 a5 b5 a6 b6 a7 b7 a8 b8 a9 b9 w) ?_
  exact eqD_nil
theorem run_eql_span (a0 b0 : Int) (a1 b1 : Int) (a2 b2 : Int) (a3 b3 : Int) (a4 b4 : Int) (a5 b5 : Int) (a6 b6 : Int) (a7 b7 : Int) (a8 b8 : Int) (a9 b9 : Int) (w : World) : (binOp .eql 36 (.agg #[.int .i64 a0, .int .i64 a1, .int .i64 a2, .int .i64 a3, .int .i64 a4, .int .i64 a5, .int .i64 a6, .int .i64 a7, .int .i64 a8, .int .i64 a9]) (.agg #[.int .i64 b0, .int .i64 b1, .int .i64 b2, .int .i64 b3, .int .i64 b4, .int .i64 b5, .int .i64 b6, .int .i64 b7, .int .i64 b8, .int .i64 b9])).run Try.prog w = .ok (.bool (eqB_span a0 b0 a1 b1 a2 b2 a3 b3 a4 b4 a5 b5 a6 b6 a7 b7 a8 b8 a9 b9)) w := by
  have h := equalIn_span 9996 a0 b0 a1 b1 a2 b2 a3 b3 a4 b4 a5 b5 a6 b6 a7 b7 a8 b8 a9 b9 w
  simp only [binOp]
  simp [Op.equal, Op.maxDepth, h]
theorem run_neq_span (a0 b0 : Int) (a1 b1 : Int) (a2 b2 : Int) (a3 b3 : Int) (a4 b4 : Int) (a5 b5 : Int) (a6 b6 : Int) (a7 b7 : Int) (a8 b8 : Int) (a9 b9 : Int) (w : World) : (binOp .neq 36 (.agg #[.int .i64 a0, .int .i64 a1, .int .i64 a2, .int .i64 a3, .int .i64 a4, .int .i64 a5, .int .i64 a6, .int .i64 a7, .int .i64 a8, .int .i64 a9]) (.agg #[.int .i64 b0, .int .i64 b1, .int .i64 b2, .int .i64 b3, .int .i64 b4, .int .i64 b5, .int .i64 b6, .int .i64 b7, .int .i64 b8, .int .i64 b9])).run Try.prog w = .ok (.bool !(eqB_span a0 b0 a1 b1 a2 b2 a3 b3 a4 b4 a5 b5 a6 b6 a7 b7 a8 b8 a9 b9)) w := by
  have h := equalIn_span 9996 a0 b0 a1 b1 a2 b2 a3 b3 a4 b4 a5 b5 a6 b6 a7 b7 a8 b8 a9 b9 w
  simp only [binOp]
  simp [Op.equal, Op.maxDepth, h]
theorem eqB_span_iff (a0 b0 : Int) (a1 b1 : Int) (a2 b2 : Int) (a3 b3 : Int) (a4 b4 : Int) (a5 b5 : Int) (a6 b6 : Int) (a7 b7 : Int) (a8 b8 : Int) (a9 b9 : Int) : eqB_span a0 b0 a1 b1 a2 b2 a3 b3 a4 b4 a5 b5 a6 b6 a7 b7 a8 b8 a9 b9 = decide (a0 = b0 ∧ a1 = b1 ∧ a2 = b2 ∧ a3 = b3 ∧ a4 = b4 ∧ a5 = b5 ∧ a6 = b6 ∧ a7 = b7 ∧ a8 = b8 ∧ a9 = b9) := by
  rw [Bool.eq_iff_iff]
  unfold eqB_span
  simp [eqB_act_iff, and_assoc]
end Go.Proofs.Ytechagciefhpbaa
