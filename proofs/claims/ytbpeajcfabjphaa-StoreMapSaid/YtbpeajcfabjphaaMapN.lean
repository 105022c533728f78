/-
  Maps whose keys are names. No condition.
-/
import Derived.Test.YtbpeajcfabjphaaMap
import Derived.Laws.StructEq
import Derived.ChangeKeysEq
import Derived.WideKeyRuns
namespace Go.Proofs.Ytbpeajcfabjphaa
open Go.RowKit Go.MapKept
def eqD (P : Program) (d : Nat) (xs ys : Array Value) : List (Bool × TypeId × Nat) → Sem Bool
  | [] => pure true
  | (b, t, o) :: ds =>
    if b = false then do
      let x ← part t xs o
      let y ← part t ys o
      let r ← Op.equalIn d t x y
      if (!r) = true then pure false else eqD P d xs ys ds
    else eqD P d xs ys ds
theorem eqFields_eqD (P : Program) (d : Nat) (xs ys : Array Value) : ∀ fs : List Field, Op.eqFields d xs ys fs = eqD P d xs ys (fs.map fun f => (f.name == "_", f.type, f.offset))
  | [] => rfl
  | f :: fs => by
    have ih := eqFields_eqD P d xs ys fs
    simp only [List.map_cons, Op.eqFields, eqD, ih, beq_eq_false_iff_ne]
theorem eqD_nil {P : Program} {d : Nat} {xs ys : Array Value} {w : World} : (eqD P d xs ys []).run P w = .ok true w := by simp [eqD]
theorem eqD_cons {P : Program} {d : Nat} {xs ys : Array Value} {t : TypeId} {o : Nat} {ds : List (Bool × TypeId × Nat)} {w : World} {x y : Value} {r s : Bool} (h1 : (part t xs o).run P w = .ok x w) (h2 : (part t ys o).run P w = .ok y w)
    (h3 : (Op.equalIn d t x y).run P w = .ok r w) (h4 : (eqD P d xs ys ds).run P w = .ok s w) : (eqD P d xs ys ((false, t, o) :: ds)).run P w = .ok (r && s) w := by
  cases r <;> simp [eqD, h1, h2, h3, h4, Result.andThen]
theorem part_one {P : Program} {t : TypeId} {xs : Array Value} {o : Nat} {v : Value} {w : World} {d : TypeDesc} (ht : P.underlying t = some d) (hd : (match d with | .struct _ | .array _ _ => false | _ => true) = true) (h : xs[o]? = some v) : (part t xs o).run P w = .ok v w := by
  cases d <;> simp_all [part, isAgg, run_underlying ht, Result.andThen]
theorem part_struct {P : Program} {t : TypeId} {xs : Array Value} {o n : Nat} {w : World} {fs : Array Field} {i : TypeInfo} (ht : P.underlying t = some (.struct fs)) (hi : P.info? t = some i) (hn : P.cellsOf t = n) : (part t xs o).run P w = .ok (.agg (xs.extract o (o + n))) w := by
  subst hn
  simp [part, isAgg, run_underlying ht, run_sizeOf w hi, Result.andThen]
def eqB_name (a0 b0 : Int) (a1 b1 : Int) : Bool := ((a0 == b0) && ((a1 == b1) && true))
theorem held_name : Try.prog.stoodInHeld 24 = false := by kernel_rfl
theorem und_name : Try.prog.underlying 24 = some (.struct (Try.prog.fieldsOf 24)) := by kernel_rfl
theorem names_name : (Try.prog.fieldsOf 24).toList.map (fun f => (f.name == "_", f.type, f.offset)) = [(false, 3, 0), (false, 3, 1)] := by kernel_rfl
theorem infos_name : ∃ i, Try.prog.info? 24 = some i := Option.isSome_iff_exists.1 (by kernel_rfl)
theorem size_name : Try.prog.cellsOf 24 = 2 := by kernel_rfl
theorem equalIn_name (d : Nat) (a0 b0 : Int) (a1 b1 : Int) (w : World) : (Op.equalIn (d + 2) 24 (.agg #[.int .i64 a0, .int .i64 a1]) (.agg #[.int .i64 b0, .int .i64 b1])).run Try.prog w = .ok (eqB_name a0 b0 a1 b1) w := by
  rw [run_equalIn_struct (P := Try.prog) w (d + 1) 24 _ _ und_name held_name, eqFields_eqD Try.prog, names_name]
  unfold eqB_name
  refine eqD_cons (part_one Try.underlying3 rfl rfl) (part_one Try.underlying3 rfl rfl) (run_equalIn_int w _ _ _ _ _ _ Try.underlying3) ?_
  refine eqD_cons (part_one Try.underlying3 rfl rfl) (part_one Try.underlying3 rfl rfl) (run_equalIn_int w _ _ _ _ _ _ Try.underlying3) ?_
  exact eqD_nil
theorem run_eql_name (a0 b0 : Int) (a1 b1 : Int) (w : World) : (binOp .eql 24 (.agg #[.int .i64 a0, .int .i64 a1]) (.agg #[.int .i64 b0, .int .i64 b1])).run Try.prog w = .ok (.bool (eqB_name a0 b0 a1 b1)) w := by
  have h := equalIn_name 9998 a0 b0 a1 b1 w
  simp only [binOp]
  simp [Op.equal, Op.maxDepth, h]
theorem run_neq_name (a0 b0 : Int) (a1 b1 : Int) (w : World) : (binOp .neq 24 (.agg #[.int .i64 a0, .int .i64 a1]) (.agg #[.int .i64 b0, .int .i64 b1])).run Try.prog w = .ok (.bool !(eqB_name a0 b0 a1 b1)) w := by
  have h := equalIn_name 9998 a0 b0 a1 b1 w
  simp only [binOp]
  simp [Op.equal, Op.maxDepth, h]
theorem eqB_name_iff (a0 b0 : Int) (a1 b1 : Int) : eqB_name a0 b0 a1 b1 = decide (a0 = b0 ∧ a1 = b1) := by
  rw [Bool.eq_iff_iff]
  unfold eqB_name
  simp

/-- Names as keys. -/
def ekN (a : Int × Int) : Value := .agg #[.int .i64 a.1, .int .i64 a.2]
theorem fields_name : ∃ f0 f1 : Field, (Try.prog.fieldsOf 24).toList = [f0, f1] ∧ (f0.name == "_") = false ∧ (f1.name == "_") = false ∧ f0.type = 3 ∧ f1.type = 3 ∧ f0.offset = 0 ∧ f1.offset = 1 := by
  have h := names_name
  generalize (Try.prog.fieldsOf 24).toList = fs at h ⊢
  have hlen := congrArg List.length h
  rcases fs with _ | ⟨f0, _ | ⟨f1, _ | ⟨f2, fs⟩⟩⟩ <;> simp at hlen
  simp only [List.map_cons, List.map_nil, List.cons.injEq, Prod.mk.injEq, and_true] at h
  obtain ⟨⟨a0, b0, c0⟩, ⟨a1, b1, c1⟩⟩ := h
  exact ⟨f0, f1, rfl, a0, a1, b0, b1, c0, c1⟩
set_option maxRecDepth 100000 in
theorem check_name (em : Bool) (a : Int × Int) (w : World) : (Instr.checkKey em 10000 24 (ekN a)).run Try.prog w = .ok () w := by
  obtain ⟨f0, f1, hl, n0, n1, t0, t1, o0, o1⟩ := fields_name
  have c : ∀ x : Int, (Instr.checkKey em 9999 3 (.int .i64 x)).run Try.prog w = .ok () w := fun x => run_checkKey Try.underlying3 (k := .int .i64 x) rfl em 9998
  have p0 : (part 3 #[.int .i64 a.1, .int .i64 a.2] 0).run Try.prog w = .ok (.int .i64 a.1) w := part_one Try.underlying3 rfl rfl
  have p1 : (part 3 #[.int .i64 a.1, .int .i64 a.2] 1).run Try.prog w = .ok (.int .i64 a.2) w := part_one Try.underlying3 rfl rfl
  simp only [beq_eq_false_iff_ne] at n0 n1
  unfold Instr.checkKey ekN
  simp only [Sem.run_bind, run_underlying und_name, Result.andThen_ok]
  rw [← Array.forIn_toList, hl]
  simp [List.forIn_cons, n0, n1, t0, t1, o0, o1, p0, p1, c, Result.andThen]
theorem equal_name (a b : Int × Int) (w : World) : (Op.equal 24 (ekN a) (ekN b)).run Try.prog w = .ok (decide (a = b)) w := by
  have h := equalIn_name 9998 a.1 b.1 a.2 b.2 w
  have e : decide (a.1 = b.1 ∧ a.2 = b.2) = decide (a = b) := by rw [decide_eq_decide, Prod.ext_iff]
  rw [eqB_name_iff, e] at h
  simp [Op.equal, Op.maxDepth, ekN, h]
theorem ekN_inj {a b : Int × Int} (h : ekN a = ekN b) : a = b := by
  unfold ekN at h
  injection h with h
  injection h with h
  injection h with h1 h2
  injection h2 with h2
  injection h1 with _ h1
  injection h2 with _ h2
  exact Prod.ext h1 h2
theorem asking_name (a : Int × Int) (w : World) : ∀ (es : List MapEntry) (i : Nat), (∀ e ∈ es, ∃ b, e.key = ekN b) →
    ((Instr.findAsking 24 (ekN a) es i).run Try.prog w = .ok none w ∧ ∀ e ∈ es, e.key ≠ ekN a) ∨
    ∃ j e, (Instr.findAsking 24 (ekN a) es i).run Try.prog w = .ok (some (i + j, e.val)) w ∧ es[j]? = some e ∧ e.key = ekN a ∧ ∀ q e', q < j → es[q]? = some e' → e'.key ≠ ekN a
  | [], i, _ => .inl ⟨rfl, by simp⟩
  | e :: es, i, h => by
    obtain ⟨b, hb⟩ := h e (.head _)
    have hq := equal_name a b w
    rw [← hb] at hq
    by_cases hab : a = b
    · subst hab
      rw [decide_eq_true rfl] at hq
      exact .inr ⟨0, e, by simp [Instr.findAsking, hq, Result.andThen], rfl, hb, fun q _ hq => by omega⟩
    · rw [decide_eq_false hab] at hq
      have hne : e.key ≠ ekN a := fun h1 => hab (ekN_inj (h1.symm.trans hb))
      rcases asking_name a w es (i + 1) (fun x hx => h x (.tail _ hx)) with ⟨h1, h2⟩ | ⟨j, e', h1, h2, h3, h4⟩
      · exact .inl ⟨by simp [Instr.findAsking, hq, Result.andThen, h1], fun x hx => (List.mem_cons.1 hx).elim (fun e1 => e1 ▸ hne) (h2 x)⟩
      · refine .inr ⟨j + 1, e', by simp [Instr.findAsking, hq, Result.andThen, h1]; omega, by simpa using h2, h3, fun q e2 hq2 hq3 => ?_⟩
        cases q with
        | zero => simp at hq3; exact hq3 ▸ hne
        | succ q => exact h4 q e2 (by omega) (by simpa using hq3)
theorem lawN : KeyEnc Try.prog 24 ekN where
  inj := ekN_inj
  check w em a := check_name em a w
  find w a es hes := by
    have h := asking_name a w es 0 hes
    rw [← run_findKey_eq (P := Try.prog) w (by rw [und_name]) (ekN a) es] at h
    simpa using h
  stays w a := by
    have : Instr.sameBits 10000 (ekN a) (ekN a) = true := by simp [Instr.sameBits, ekN]
    simp [Instr.keyThatStays, this]
end Go.Proofs.Ytbpeajcfabjphaa
