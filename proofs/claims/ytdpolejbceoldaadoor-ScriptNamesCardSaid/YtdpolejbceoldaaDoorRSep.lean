/-
  A range over a function whose iterator writes memory: the rounds told by parts of memory (Sep). No condition.
-/
import Derived.RangeFuncBox
import Derived.RangeFuncLeaves
import Derived.RangeFuncNested
import Derived.RangeFuncBound
import Derived.RangeFuncCalls
import Derived.Shelf.Abstract
import Derived.Shelf.RegionOpen
import Derived.WalkKit
import Derived.OwnWalkIn
import Derived.TacticsInMore
import Derived.LoopNIn
import Derived.LoopIn
import Derived.Maps.AppendAt
import Derived.Test.YtdpolejbceoldaaDoorSep
namespace Go.Proofs.YtdpolejbceoldaaDoor
set_option linter.unusedSimpArgs false
set_option linter.unusedVariables false
set_option linter.unnecessarySimpa false
open Go.RowKit Go.Shelf
/-- One block, whatever it holds. -/
def ob (g : Nat) (o : Obj) : Res where
  at_ A w := (∀ b, A b ↔ b = g) ∧ w.heap[g]? = some o
  lt h b hb := by rw [(h.1 b).1 hb]; exact (Array.getElem?_eq_some_iff.1 h.2).1
  keep h k := ⟨h.1, (k.block _ (Array.getElem?_eq_some_iff.1 h.2).1 ((h.1 _).2 rfl)).trans h.2⟩
section
variable {w : World} {rs : List Res}
theorem Sep.ob_get {g : Nat} {o : Obj} (h : Sep w (ob g o :: rs)) : w.heap[g]? = some o := by
  obtain ⟨A, h1, _⟩ := h.out
  exact h1.2
theorem Sep.ob_set {g : Nat} {o : Obj} (o' : Obj) (h : Sep w (ob g o :: rs)) : Sep (w.putObj g o') (ob g o' :: rs) := by
  obtain ⟨A, h1, h2⟩ := h.open_
  have hlt := (Array.getElem?_eq_some_iff.1 h1.2).1
  exact h2 (w.putObj g o') (ob g o') A ⟨h1.1, World.putObj_heap_same hlt⟩ (Keeps.grown (grownBy_putObj' w g o') fun k e h => h ((h1.1 k).2 (by cases e; rfl))) (fun _ h => .inl h)
theorem Sep.ob_new (o : Obj) (h : Sep w rs) : Sep (w.alloc o) (ob w.heap.size o :: rs) :=
  h.new (A := fun b => b = w.heap.size) ⟨fun _ => Iff.rfl, World.alloc_heap_new w o⟩ (Keeps.alloc w o) (fun b e => by rw [e]; exact Nat.le_refl _)
end
/-- The record of a loop that never is left by a jump. -/
def recR (fn : FuncId) (tmps : Array Value) (ps : Array Tmp) (assign body : Code) (D : Nat) (st : LoopState) : Loop := { state := st, pending := none, fn, tmps, params := ps, assign, body, defers := D }
section
variable {F : Fence} {n : Nat} {P : Program}
/-- One round: the record is ready; the parts turn from rs to rs'. -/
theorem round_sep {l : Nat} {fn : FuncId} {tmps : Array Value} {ps : Array Tmp} {assign body : Code} {D : Nat} {args : Array Value} {W : World} {rs rs' : List Res} (hfn : F.fn fn) (hps : args.size = ps.size)
    (hS : Sep W (ob l (.loop (recR fn tmps ps assign body D .ready)) :: rs))
    (h : assign.wpIn (F.inRound l) n P (Exit.then (fun a1 W1 => ∃ r1 : List Res, Sep W1 (ob l (.loop (recR fn tmps ps assign body D .ready)) :: r1) ∧
      ∀ W2, Sep W2 (ob l (.loop (recR fn tmps ps assign body D .busy)) :: r1) → body.wpIn (F.inRound l) n P (Exit.then (fun _ W3 => Sep W3 (ob l (.loop (recR fn tmps ps assign body D .busy)) :: rs')) (fun _ _ _ => False)) a1 W2) (fun _ _ _ => False))
      { tmps := (ps.zip args).foldl (fun t (p, v) => t.setIfInBounds p v) tmps, defers := [] } W) :
    YieldAt F n P l args W fun e W' => e = .returned (.bool true) ∧ Sep W' (ob l (.loop (recR fn tmps ps assign body D .ready)) :: rs') := by
  have hy := run_yield (P := P) (args := args) hS.ob_get hps
  refine ⟨_, _, _, _, hy, roundIn_of_wpIn hfn (wpIn_mono h fun e a1 W1 he => ?_)⟩
  cases e with
  | normal =>
    obtain ⟨r1, hS1, hb⟩ := he
    refine ⟨_, run_beginRound hS1.ob_get rfl, wpIn_mono (hb _ (hS1.ob_set _)) fun e a3 W3 h3 => ?_⟩
    cases e with
    | normal =>
      have h3 : Sep W3 _ := h3
      exact ⟨_, _, run_endRound none h3.ob_get, rfl, h3.ob_set _⟩
    | ret => exact h3.elim
    | exit id => exact h3.elim
    | goto t => exact h3.elim
    | panic c => exact h3.elim
    | outgrown => exact h3.elim
  | ret => exact he.elim
  | exit id => exact he.elim
  | goto t => exact he.elim
  | panic c => exact he.elim
  | outgrown => exact he.elim
/-- The statement: the iterator's call, told by parts. -/
theorem range_sep {g : Operand} {ps : Array Tmp} {assign body : Code} {Q : Exit → Act → World → Prop} {a : Act} {w : World} {rs rs' : List Res}
    (hro : F.round = none) (h1 : 1 ≤ n) {gf : Nat} {lb : Array Value} (hg : a.eval g = .func (.func gf) #[] lb) (hFg : F.fn gf) (eg : ∀ args w, (callFunc gf args).run P w = .ok (.enter gf args) w)
    (hS : Sep w rs)
    (hseq : ∀ (fn : FuncId) (l D : Nat) (W : World), F.fn fn → Sep W (ob l (.loop (recR fn a.tmps ps assign body D .ready)) :: ob D (.deferred (some [])) :: rs) →
      CallsIn F (n - 1) P gf (#[.func (.yield l) #[] #[]] ++ lb) W fun e W' => (∃ v, e = .returned v) ∧ Sep W' (ob l (.loop (recR fn a.tmps ps assign body D .ready)) :: ob D (.deferred (some [])) :: rs'))
    (hdone : ∀ (D : Nat) (W : World), Sep W (ob D (.deferred (some [])) :: rs') → Q .normal { a with defers := { target := .collected D, args := #[] } :: a.defers } W) :
    (Code.rangeFunc g ps assign body).wpIn F n P Q a w := by
  refine wpIn_rangeFunc ?_
  intro fn hfn
  rw [hro]
  have hS1 := (hS.ob_new (.deferred (some []))).ob_new (.loop (recR fn a.tmps ps assign body w.heap.size .ready))
  rw [World.size_alloc] at hS1
  obtain ⟨W1, hW1⟩ : ∃ W1, W1 = (w.alloc (.deferred (some []))).alloc (.loop (recR fn a.tmps ps assign body w.heap.size .ready)) := ⟨_, rfl⟩
  rw [← hW1] at hS1
  refine ⟨w.heap.size + 1, [{ target := .collected w.heap.size, args := #[] }], W1, { target := .fn (.func gf) lb, args := #[.func (.yield (w.heap.size + 1)) #[] #[]] }, W1, gf, #[.func (.yield (w.heap.size + 1)) #[] #[]] ++ lb, W1, ?_, ?_, ?_, ?_, fun _ => h1, ?_⟩
  · rw [hW1]
    exact run_enterLoop_outer _ _ _ _ _
  · simp only [resolve, hg]
    simp [go_sem]
  · intro f' hf'
    simp [Target.leads] at hf'
    subst hf'
    exact hFg
  · simp [invoke, go_sem, eg]
  · refine (hseq fn _ _ _ hfn hS1).mono ?_
    rintro e W2 ⟨⟨v, rfl⟩, hS2⟩
    have hE := run_endLoop (P := P) hS2.ob_get (by unfold recR; simp)
    exact ⟨none, _, hE, hdone _ _ (hS2.ob_set _).tail⟩
/-- Append to a slice of the call's own, inside a fence, told by parts. -/
theorem wpListIn_append_sep {ops : Array Oper} {rest : List Oper} {o : Oper} {a : Act} {Q : Exit → Act → World → Prop} {w : World} {e : TypeId} {size m0 : Nat} {v : Value} {xs : List Value} {rs : List Res}
    (hS : Sep w (vec e size v m0 xs :: rs)) (hg : o.guard = none) (s x : Operand) (t : TypeId)
    (hop : o.op = .call { callee := .builtin .append, args := #[s, x], argTypes := #[t, t] })
    (i : TypeInfo) (z : Value) (bytes : Nat) (ht : P.underlying t = some (.slice e)) (hi : P.info? e = some i) (hz : i.zero = some z)
    (hsize : i.size = size) (hby : i.bytes = bytes) (hzs : z.cells.size = size) (hsz : 0 < size)
    (hs : a.eval s = v)
    (m : Nat) (news : List Value) (hx : SrcA w size (a.eval x) m news) (h1 : ∀ u ∈ news, u.oneCell' = true)
    (h63 : m0 + m ≤ maxLen) (hbytes : (m0 + m) * bytes ≤ 140737488355328)
    (h : ∀ (a' : Option Addr) (c' : Nat) w', Sep w' (vec e size (.slice a' (m0 + m) c') (m0 + m) (xs ++ news) :: rs) → wpListIn F n P ops Q rest (a.put o.dst (.slice a' (m0 + m) c')) w') :
    wpListIn F n P ops Q (o :: rest) a w := by
  obtain ⟨a', c', w', hr, hS'⟩ := run_append_sep (P := P) hS t o.type i z bytes ht hi hz hsize hby hzs hsz _ m news hx h1 h63 hbytes
  refine wpListIn_plain hg fun K hK' => ?_
  unfold Oper.wpIn
  refine ⟨?_, ?_⟩
  · simp [Oper.about, hop, resolve, Target.leads, Sem.run_pure]
  · rw [Oper.semAt_plain F _ _ (by rw [hop]; intro c hc'; cases hc')]
    simp [execOp, hop, resolve, invoke, builtin, hs, hr, Result.andThen]
    exact hK' _ _ (h a' c' w' hS')
end
end Go.Proofs.YtdpolejbceoldaaDoor
