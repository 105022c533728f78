/-
  A region that draws its order, walked once, in the order of its text: where each operation, in every world that meets S, leaves a value that hangs on no world, and S holds behind it. No condition.
-/
import Derived.Test.YtechagciefhpbaaDoorSep
import Derived.Deep.RegionWith
namespace Go.Proofs.YtechagciefhpbaaDoor
set_option linter.unusedSimpArgs false
set_option linter.unusedVariables false
set_option linter.unnecessarySimpa false
open Go.RowKit
section
variable {P : Program} {ops : Array Oper} {Q : Exit → Act → World → Prop} {md : Region.Mode} {S : World → Prop}
/-- Two values that make no difference where an operation writes. -/
def PutEq (o : Oper) (n : Nat) (u v : Value) : Prop := ∀ a : Act, a.tmps.size = n → a.put o.dst u = a.put o.dst v
def ResS (P : Program) (S : World → Prop) (o : Oper) (n : Nat) (v : Value) : Result Next → Prop
  | .ok (.value u) w' => PutEq o n u v ∧ S w'
  | .ok .skip w' => PutEq o n undef v ∧ S w'
  | .ok (.enter f args) w' => Calls P f args w' fun e w'' => match e with
    | .returned u => PutEq o n u v ∧ S w''
    | _ => False
  | .ok (.row row args) w' => Rows P row args w' fun u w'' => PutEq o n u v ∧ S w''
  | _ => False
def YieldsS (P : Program) (ops : Array Oper) (S : World → Prop) (o : Oper) (n : Nat) (v : Value) (a : Act) : Prop :=
  (Region.wanted o (yielded ops a.tmps) = true ∧ ∀ w, S w → ResS P S o n v ((execOp a.eval o).run P w)) ∨
  (Region.wanted o (yielded ops a.tmps) = false ∧ v = undef)
theorem size_put (a : Act) (d : Option Tmp) (v : Value) : (a.put d v).tmps.size = a.tmps.size := by
  cases d <;> simp [Act.put]
theorem put_inj {a a' : Act} {d : Option Tmp} {u v : Value} (h : a.put d u = a.put d v) (hs : a'.tmps.size = a.tmps.size) : a'.put d u = a'.put d v := by
  cases d with
  | none => rfl
  | some k =>
    simp only [Act.put, Act.mk.injEq, and_true] at h ⊢
    by_cases hk : k < a.tmps.size
    · have h1 := congrArg (fun x : Array Value => x[k]?) h
      simp [hk] at h1
      rw [h1]
    · have hk' : a'.tmps.size ≤ k := by rw [hs]; exact Nat.not_lt.1 hk
      rw [Array.setIfInBounds_eq_of_size_le hk', Array.setIfInBounds_eq_of_size_le hk']
theorem ResS.of_wp {o : Oper} {a : Act} {v : Value} {w : World} (h : o.wp P a w (fun a' w' => a' = a.put o.dst v ∧ S w') (fun _ _ _ => False)) : ResS P S o a.tmps.size v ((execOp a.eval o).run P w) := by
  unfold Oper.wp at h
  generalize (execOp a.eval o).run P w = r at *
  cases r with
  | ok n w' =>
    cases n <;> simp only [Oper.upon] at h
    case value u => exact ⟨fun a' hs => put_inj h.1 hs, h.2⟩
    case skip => exact ⟨fun a' hs => put_inj h.1 hs, h.2⟩
    case defer d =>
      have h1 := congrArg Act.defers h.1
      cases hd : o.dst <;> simp [Act.put, hd] at h1
    case enter f args =>
      refine Calls.mono h fun e w'' he => ?_
      cases e with
      | returned u => exact ⟨fun a' hs => put_inj he.1 hs, he.2⟩
      | panicked c => exact he
      | outgrown => obtain ⟨_, _, h⟩ := he; exact h.elim
    case row row args => exact Rows.mono h fun u w'' he => ⟨fun a' hs => put_inj he.1 hs, he.2⟩
  | halt x w' => cases x <;> simp only [Oper.upon] at h
/-- What the user shows of an operation that is wanted. -/
theorem YieldsS.mk {o : Oper} {a : Act} {v : Value} (hw : Region.wanted o (yielded ops a.tmps) = true) (h : ∀ w, S w → o.wp P a w (fun a' w' => a' = a.put o.dst v ∧ S w') (fun _ _ _ => False)) : YieldsS P ops S o a.tmps.size v a :=
  .inl ⟨hw, fun w hS => ResS.of_wp (h w hS)⟩
theorem YieldsS.of_same {o : Oper} {n : Nat} {v : Value} {a a' : Act} (hy : YieldsS P ops S o n v a) (he : execOp a'.eval o = execOp a.eval o)
    (hw : Region.wanted o (yielded ops a'.tmps) = Region.wanted o (yielded ops a.tmps)) : YieldsS P ops S o n v a' := by
  unfold YieldsS at *
  rw [he, hw]
  exact hy
theorem YieldsS.wpOp {i : Nat} {o : Oper} {v : Value} {a : Act} (hi : ops[i]? = some o) (hy : YieldsS P ops S o a.tmps.size v a)
    {K : Act → World → Prop} {w : World} (hS : S w) (h : ∀ w', S w' → K (a.put o.dst v) w') : wpOp P ops Q i K a w := by
  unfold Go.wpOp
  simp only [hi]
  rcases hy with ⟨hw, hv⟩ | ⟨hw, rfl⟩
  · simp only [hw, if_true]
    refine .inl ?_
    have h1 := hv w hS
    unfold Oper.wp
    generalize (execOp a.eval o).run P w = r at *
    cases r with
    | ok n w' =>
      cases n <;> simp only [ResS] at h1 <;> simp only [Oper.upon]
      case value u => rw [h1.1 a rfl]; exact h _ h1.2
      case skip => rw [h1.1 a rfl]; exact h _ h1.2
      case enter f args =>
        refine Calls.mono h1 fun e w'' he => ?_
        cases e with
        | returned u => show K (a.put o.dst u) w''; rw [he.1 a rfl]; exact h _ he.2
        | panicked c => exact he.elim
        | outgrown => exact he.elim
      case row row args => exact Rows.mono h1 fun u w'' he => by rw [he.1 a rfl]; exact h _ he.2
    | halt x w' => simp only [ResS] at h1
  · simp only [hw, Bool.false_eq_true, if_false]
    exact h w hS
/-- The operations that are left, in some order in which they may come up. -/
inductive Seq (P : Program) (md : Region.Mode) (ops : Array Oper) (Q : Exit → Act → World → Prop) (S : World → Prop) : Nat → Array Bool → Act → Prop
  | done {listed : Array Bool} {a : Act} (hr : Region.ready md ops listed = []) (h : ∀ w, S w → Q .normal a w) : Seq P md ops Q S 0 listed a
  | step {n : Nat} {listed : Array Bool} {a : Act} (i : Nat) (v : Value) {oi : Oper} (hi : ops[i]? = some oi)
      (hf : ∀ j oj, ops[j]? = some oj → j ≠ i → listed.getD j true = false → (∀ e ∈ oj.after, Region.binds md e = true → e.on ≠ i) → oi.apart ops oj = true)
      (hr : i ∈ Region.ready md ops listed) (hy : YieldsS P ops S oi a.tmps.size v a)
      (h : Seq P md ops Q S n (listed.setIfInBounds i true) (a.put oi.dst v)) : Seq P md ops Q S (n + 1) listed a
theorem Seq.first (hsel : ∀ (j : Nat) (o : Oper) cs b, ops[j]? = some o → o.op ≠ .select cs b) : ∀ {n : Nat} {listed : Array Bool} {a : Act}, Seq P md ops Q S n listed a → ∀ j ∈ Region.ready md ops listed,
    ∃ (m : Nat) (u : Value) (oj : Oper), n = m + 1 ∧ ops[j]? = some oj ∧ YieldsS P ops S oj a.tmps.size u a ∧ Seq P md ops Q S m (listed.setIfInBounds j true) (a.put oj.dst u) := by
  intro n listed a h
  induction h with
  | done hr _ => intro j hj; rw [hr] at hj; cases hj
  | @step n listed a i v oi hi hf hr hy h ih =>
    intro j hj
    by_cases hji : j = i
    · subst hji; exact ⟨n, v, oi, rfl, hi, hy, h⟩
    · obtain ⟨m, u, oj, rfl, hoj, hyj, hs⟩ := ih j (ready_mono hj hji)
      obtain ⟨hjun, oj', hoj', hall⟩ := mem_ready.1 hj
      obtain rfl : oj' = oj := by rw [hoj] at hoj'; exact (Option.some.inj hoj').symm
      have hnot : ∀ e ∈ oj'.after, Region.binds md e = true → e.on ≠ i := fun e he hb heq => by
        have h1 := hall e he hb
        have h0 := (mem_ready.1 hr).1
        rw [heq] at h1
        rcases Nat.lt_or_ge i listed.size with h' | h'
        · simp [h'] at h0 h1; rw [h0] at h1; cases h1
        · simp [Array.getElem?_eq_none h'] at h1
      obtain ⟨h1, h2, h3⟩ := Oper.apart_spec (hf j oj' hoj hji hjun hnot)
      have hyj' : YieldsS P ops S oj' a.tmps.size u a := by
        rw [size_put] at hyj
        exact hyj.of_same (execOp_put oj' (fun cs b => hsel j oj' cs b hoj) a oi.dst v h1).symm (wanted_put oj' a oi.dst v h1).symm
      refine ⟨m + 1, u, oj', rfl, hoj, hyj', Seq.step i v hi ?_ (ready_mono hr (Ne.symm hji)) ?_ ?_⟩
      · intro k ok hk hki hun hno
        refine hf k ok hk hki ?_ hno
        by_cases hjk : j = k
        · subst hjk; exact hjun
        · rw [getD_set_ne true hjk] at hun; exact hun
      · rw [size_put]
        exact hy.of_same (execOp_put oi (fun cs b => hsel i oi cs b hi) a oj'.dst u h3) (wanted_put oi a oj'.dst u h3)
      · rw [Array.setIfInBounds_comm _ _ hji, ← Act.put_comm a v u h2]
        exact hs
theorem Seq.wpAny (hsel : ∀ (j : Nat) (o : Oper) cs b, ops[j]? = some o → o.op ≠ .select cs b) : ∀ {n : Nat} {listed : Array Bool} {a : Act} {w : World}, Seq P md ops Q S n listed a → S w → wpAny P md ops Q n listed a w
  | 0, listed, a, w, h, hS => by cases h with | done hr h => exact ⟨hr, h w hS⟩
  | n + 1, listed, a, w, h, hS => by
    refine ⟨fun hr => ?_, fun j hj => ?_⟩
    · cases h with | step i v hi hf hr' hy h => rw [hr] at hr'; cases hr'
    · obtain ⟨m, u, oj, hm, hoj, hyj, hs⟩ := Seq.first hsel h j hj
      obtain rfl : m = n := by omega
      exact hyj.wpOp hoj hS (fun w' hS' => Seq.wpAny hsel hs hS')
/-- The beginning: the region from the world behind the draw. -/
theorem wp_region_seq {id : Nat} {a : Act} {w : World} (S : World → Prop) (hm : P.follows .mixedOrders = true) (hs : Region.noSelect ops = true) (hS : S w.drew)
    (h : Seq P .any ops Q S ops.size (Array.replicate ops.size false) a) : (Code.region id ops true).wp P Q a w :=
  wp_region_any hm (Seq.wpAny (Region.noSelect_spec hs) h hS)
/-- The moves. -/
theorem Seq.take {n : Nat} {listed : Array Bool} {a : Act} (i : Nat) (v : Value) {oi : Oper} (hi : ops[i]? = some oi)
    (hf : Region.free md ops listed i = true) (hr : (Region.ready md ops listed).contains i = true)
    (hw : Region.wanted oi (yielded ops a.tmps) = true) (hy : ∀ (K : Act → World → Prop) w, S w → (∀ w', S w' → K (a.put oi.dst v) w') → oi.wp P a w K (fun _ _ _ => False))
    (h : Seq P md ops Q S n (listed.setIfInBounds i true) (a.put oi.dst v)) : Seq P md ops Q S (n + 1) listed a :=
  .step i v hi (Region.free_spec hi hf) (by simpa using hr) (YieldsS.mk hw fun w hS => hy _ w hS fun w' hS' => ⟨rfl, hS'⟩) h
theorem Seq.skip {n : Nat} {listed : Array Bool} {a : Act} (i : Nat) {oi : Oper} (hi : ops[i]? = some oi)
    (hf : Region.free md ops listed i = true) (hr : (Region.ready md ops listed).contains i = true)
    (hw : Region.wanted oi (yielded ops a.tmps) = false)
    (h : Seq P md ops Q S n (listed.setIfInBounds i true) (a.put oi.dst undef)) : Seq P md ops Q S (n + 1) listed a :=
  .step i undef hi (Region.free_spec hi hf) (by simpa using hr) (.inr ⟨hw, rfl⟩) h
end
end Go.Proofs.YtechagciefhpbaaDoor
