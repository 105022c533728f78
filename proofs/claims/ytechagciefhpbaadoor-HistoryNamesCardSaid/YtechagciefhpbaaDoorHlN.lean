/-
  The plan of a long drawn region, checked off three tables of numbers (what each operation waits for, looks at, writes): cheap for the kernel where the region has a hundred operations. No condition.
-/
import Derived.Test.YtechagciefhpbaaDoorHl
namespace Go.Proofs.YtechagciefhpbaaDoor
set_option linter.unusedSimpArgs false
set_option linter.unusedVariables false
set_option linter.unnecessarySimpa false
open Go.RowKit
/-- What an operation waits for, looks at, writes (0: nothing; d + 1: the temporary d). -/
def rowN (ops : Array Oper) (o : Oper) : List Nat × List Nat × Nat :=
  ((o.after.toList.filter (Region.binds .any)).map (·.on), o.looksAt ops, match o.dst with | some d => d + 1 | none => 0)
def rdyN (d : List Nat) (m : Nat) : Bool := d.all fun k => m.testBit k
def apN (x y : List Nat × List Nat × Nat) : Bool :=
  (match x.2.2 with | d + 1 => !(y.2.1.contains d) && y.2.2 != d + 1 | 0 => true) && (match y.2.2 with | d + 1 => !(x.2.1.contains d) | 0 => true)
def allN (f : Nat → List Nat × List Nat × Nat → Bool) : Nat → List (List Nat × List Nat × Nat) → Bool
  | _, [] => true
  | k, x :: r => f k x && allN f (k + 1) r
def planN (tab : List (List Nat × List Nat × Nat)) : List (Nat × Bool) → Nat → Bool
  | [], m => allN (fun j _ => m.testBit j) 0 tab
  | (i, t) :: r, m => match tab[i]? with
    | none => false
    | some x => !m.testBit i && rdyN x.1 m && (if t then allN (fun j y => j == i || m.testBit j || y.1.contains i || apN x y) 0 tab else allN (fun j y => j == i || m.testBit j || !rdyN y.1 m) 0 tab) && planN tab r (m ||| 2 ^ i)
theorem allN_spec {f : Nat → List Nat × List Nat × Nat → Bool} : ∀ {l : List (List Nat × List Nat × Nat)} {k : Nat}, allN f k l = true → ∀ (j : Nat) (x : List Nat × List Nat × Nat), l[j]? = some x → f (k + j) x = true
  | [], _, _, j, x, h => by simp at h
  | y :: r, k, hh, j, x, h => by
    simp only [allN, Bool.and_eq_true] at hh
    cases j with
    | zero => simp at h; subst h; exact hh.1
    | succ j =>
      have := allN_spec hh.2 j x (by simpa using h)
      rwa [show k + 1 + j = k + (j + 1) by omega] at this
theorem filter_one {n i : Nat} {f : Nat → Bool} (hi : i < n) (h : f i = true) (h0 : ∀ j, j < n → j ≠ i → f j = false) : (List.range n).filter f = [i] := by
  induction n with
  | zero => omega
  | succ n ih =>
    rw [List.range_succ, List.filter_append]
    by_cases hn : i = n
    · subst hn
      rw [List.filter_eq_nil_iff.2 (fun j hj => by
        have hj' := List.mem_range.1 hj
        rw [h0 j (by omega) (by omega)]
        decide)]
      simp [h]
    · rw [ih (by omega) (fun j hj => h0 j (by omega))]
      simp [h0 n (by omega) (fun e => hn e.symm)]
section
variable {ops : Array Oper} {l : Array Bool} {m : Nat}
theorem getD_false (hl : ∀ j, j < ops.size → l.getD j true = m.testBit j) (hs : l.size = ops.size) (hm : ∀ j, ops.size ≤ j → m.testBit j = false) (k : Nat) : l.getD k false = m.testBit k := by
  by_cases h : k < ops.size
  · rw [← hl k h]
    simp [Array.getD_eq_getD_getElem?, show k < l.size by omega]
  · rw [hm k (by omega)]
    simp [Array.getD_eq_getD_getElem?, Array.getElem?_eq_none (show l.size ≤ k by omega)]
theorem ready_at (hl : ∀ j, j < ops.size → l.getD j true = m.testBit j) (hs : l.size = ops.size) (hm : ∀ j, ops.size ≤ j → m.testBit j = false) {j : Nat} {o : Oper} (ho : ops[j]? = some o) :
    (!l.getD j true && ((ops[j]?).map fun o => o.after.all fun e => !Region.binds .any e || l.getD e.on false).getD false) = (!m.testBit j && rdyN (rowN ops o).1 m) := by
  have hj : j < ops.size := by
    rcases Nat.lt_or_ge j ops.size with h | h
    · exact h
    · rw [Array.getElem?_eq_none h] at ho; cases ho
  rw [hl j hj, ho]
  simp only [Option.map_some, Option.getD_some, rdyN, rowN]
  congr 1
  rw [← Array.all_toList, List.all_map]
  generalize o.after.toList = es
  induction es with
  | nil => rfl
  | cons e es ih =>
    rw [List.all_cons, ih, List.filter_cons]
    cases hb : Region.binds .any e with
    | true => simp only [Bool.not_true, Bool.false_or, if_true, List.all_cons, Function.comp, getD_false hl hs hm e.on]
    | false => simp
theorem free_at (hl : ∀ j, j < ops.size → l.getD j true = m.testBit j) {tab : List (List Nat × List Nat × Nat)} (ht : ops.toList.map (rowN ops) = tab) {i : Nat} {o : Oper} (hi : ops[i]? = some o)
    (h : allN (fun j y => j == i || m.testBit j || y.1.contains i || apN (rowN ops o) y) 0 tab = true) : Region.free .any ops l i = true := by
  simp only [Region.free, hi, List.all_eq_true, List.mem_range]
  intro j hj
  have ho : ops[j]? = some ops[j] := by simp [hj]
  have hr : tab[j]? = some (rowN ops ops[j]) := by rw [← ht]; simp [hj]
  have := allN_spec h j _ hr
  rw [Nat.zero_add] at this
  rw [ho, hl j hj]
  simp only [Bool.or_eq_true] at this ⊢
  rcases this with (h1 | h1) | h1
  · exact .inl h1
  · refine .inr (.inl ?_)
    have hc : i ∈ (rowN ops ops[j]).1 := by simpa using h1
    simp only [rowN, List.mem_map, List.mem_filter] at hc
    obtain ⟨e, ⟨he, hb⟩, hon⟩ := hc
    rw [Array.any_eq_true']
    exact ⟨e, by simpa using he, by simp [hb, hon]⟩
  · refine .inr (.inr ?_)
    unfold apN at h1
    simp only [rowN] at h1
    unfold Oper.apart
    cases h2 : o.dst <;> cases h3 : ops[j].dst <;> simp_all
theorem planN_sound {tab : List (List Nat × List Nat × Nat)} (ht : ops.toList.map (rowN ops) = tab) : ∀ (p : List (Nat × Bool)) (l : Array Bool) (m : Nat), (∀ j, j < ops.size → l.getD j true = m.testBit j) → l.size = ops.size → (∀ j, ops.size ≤ j → m.testBit j = false) → planN tab p m = true → planOK .any ops p l = true
  | [], l, m, hl, hs, hm, h => by
    simp only [planN] at h
    simp only [planOK, List.isEmpty_iff, Region.ready, List.filter_eq_nil_iff, List.mem_range]
    intro j hj
    have ho : ops[j]? = some ops[j] := by simp [hj]
    have hr : tab[j]? = some (rowN ops ops[j]) := by rw [← ht]; simp [hj]
    have := allN_spec h j _ hr
    rw [Nat.zero_add] at this
    rw [hl j hj, this]
    simp
  | (i, t) :: r, l, m, hl, hs, hm, h => by
    simp only [planN] at h
    cases hx : tab[i]? with
    | none => rw [hx] at h; cases h
    | some x =>
      rw [hx] at h
      simp only [Bool.and_eq_true] at h
      obtain ⟨⟨⟨h1, h2⟩, h3⟩, h4⟩ := h
      have hi : i < ops.size := by
        rcases Nat.lt_or_ge i ops.size with k | k
        · exact k
        · rw [← ht, List.getElem?_eq_none (by simpa using k)] at hx; cases hx
      have ho : ops[i]? = some ops[i] := by simp [hi]
      have hr : x = rowN ops ops[i] := by
        rw [← ht] at hx
        simpa [hi] using hx.symm
      subst hr
      have hl' : ∀ j, j < ops.size → (l.setIfInBounds i true).getD j true = (m ||| 2 ^ i).testBit j := by
        intro j hj
        rw [Nat.testBit_or, Nat.testBit_two_pow]
        by_cases hji : i = j
        · subst hji
          simp [Array.getD_eq_getD_getElem?, show i < l.size by omega]
        · have hq : ((l.setIfInBounds i true)[j]?).getD true = (l[j]?).getD true := by rw [Array.getElem?_setIfInBounds_ne hji]
          rw [Array.getD_eq_getD_getElem?, hq, ← Array.getD_eq_getD_getElem?, hl j hj]
          simp [hji]
      have ih := planN_sound ht r _ _ hl' (by simpa using hs) (fun j hj => by
        rw [Nat.testBit_or, Nat.testBit_two_pow, hm j hj]
        simp
        omega) h4
      have hri : (!l.getD i true && ((ops[i]?).map fun o => o.after.all fun e => !Region.binds .any e || l.getD e.on false).getD false) = true := by
        rw [ready_at hl hs hm ho, h1, h2]; rfl
      cases t with
      | true =>
        simp only [if_true] at h3
        simp only [planOK, Bool.and_eq_true]
        refine ⟨⟨free_at hl ht ho h3, ?_⟩, ih⟩
        rw [List.contains_iff_mem]
        exact List.mem_filter.2 ⟨List.mem_range.2 hi, hri⟩
      | false =>
        rw [if_neg (by decide)] at h3
        simp only [planOK, Bool.and_eq_true, beq_iff_eq]
        refine ⟨filter_one hi hri (fun j hj hne => ?_), ih⟩
        have hoj : ops[j]? = some ops[j] := by simp [hj]
        have hrj : tab[j]? = some (rowN ops ops[j]) := by rw [← ht]; simp [hj]
        have := allN_spec h3 j _ hrj
        rw [Nat.zero_add] at this
        rw [ready_at hl hs hm hoj]
        simp only [Bool.or_eq_true, beq_iff_eq, hne, false_or] at this
        rcases this with k | k
        · rw [k]; rfl
        · rw [Bool.not_eq_true'] at k
          rw [k]; simp
end
theorem hl_begin_n {P : Program} {ops : Array Oper} {Q : Exit → Act → World → Prop} {id : Nat} {a : Act} {w : World} (S : World → Prop) (p : List (Nat × Bool)) (tab : List (List Nat × List Nat × Nat)) (hm : P.follows .mixedOrders = true) (hs : Region.noSelect ops = true)
    (ht : ops.toList.map (rowN ops) = tab) (hp : planN tab p 0 = true) (hn : p.length = ops.size) (hQ : ∀ c t t' d w, Q (.panic c) ⟨t, d⟩ w → Q (.panic c) ⟨t', d⟩ w) (hS : S w.drew)
    (h : HL P ops Q S p a w.drew) : (Code.region id ops true).wp P Q a w :=
  hl_begin S p hm hs (planN_sound ht p _ 0 (fun j hj => by simp [Array.getD_eq_getD_getElem?, hj]) (by simp) (fun j _ => Nat.zero_testBit j) hp) hn hQ hS h
end Go.Proofs.YtechagciefhpbaaDoor
