/-
  The plan of a drawn region in which two operations may be ready side by side (a call, and an array that is made): both orders are walked, and meet in one condition on the two values and the world. No condition.
-/
import Derived.Test.YtechagciefhpbaaDoorHlN
namespace Go.Proofs.YtechagciefhpbaaDoor
open Go.RowKit
/-- A step of the plan: taken first (or passed over); alone ready; two that are ready. -/
inductive Stp where
  | take (i : Nat)
  | one (i : Nat)
  | two (i j : Nat)
def Stp.n : Stp → Nat
  | .two _ _ => 2
  | _ => 1
def stpN : List Stp → Nat
  | [] => 0
  | x :: r => stpN r + x.n
section
variable {P : Program} {ops : Array Oper} {Q : Exit → Act → World → Prop} {md : Region.Mode} {S : World → Prop}
theorem held_pair {P : Program} {ops : Array Oper} {Q : Exit → Act → World → Prop} {md : Region.Mode} {S : World → Prop} (i j : Nat) {oi oj : Oper} {fuel : Nat} {listed : Array Bool} {a : Act} {w : World} (hr : Region.ready md ops listed = [i, j]) (hi : ops[i]? = some oi) (hj : ops[j]? = some oj)
    (wi : Region.wanted oi (yielded ops a.tmps) = true) (wj : Region.wanted oj (yielded ops a.tmps) = true)
    (h1 : ∀ K : Act → World → Prop, Hid (∀ a w, S w → wpAnyH P md ops Q S fuel (listed.setIfInBounds i true) a w → K a w) → oi.wp P a w K Q)
    (h2 : ∀ K : Act → World → Prop, Hid (∀ a w, S w → wpAnyH P md ops Q S fuel (listed.setIfInBounds j true) a w → K a w) → oj.wp P a w K Q) : wpAnyH P md ops Q S (fuel + 1) listed a w :=
  wpAnyH_ready hr (by simp) (AllReadyH.cons hi (fun K hK => by
    rw [if_pos wi]
    exact h1 K (fun a w hS hW => hK a w hS (fun _ => hW))) (AllReadyH.cons hj (fun K hK => by
    rw [if_pos wj]
    exact h2 K (fun a w hS hW => hK a w hS (fun _ => hW))) AllReadyH.nil))
/-- The plan, step by step. -/
def HM (P : Program) (ops : Array Oper) (Q : Exit → Act → World → Prop) (S : World → Prop) : List Stp → Act → World → Prop
  | [], a, w => Q .normal a w
  | .take i :: r, a, w => ∃ o, ops[i]? = some o ∧
      ((Region.wanted o (yielded ops a.tmps) = true ∧ ∃ v, (∀ W, S W → (execOp a.eval o).run P W = .ok (.value v) W) ∧ HM P ops Q S r (a.put o.dst v) w) ∨
       (Region.wanted o (yielded ops a.tmps) = false ∧ HM P ops Q S r (a.put o.dst undef) w))
  | .one i :: r, a, w => ∃ o, ops[i]? = some o ∧
      ((Region.wanted o (yielded ops a.tmps) = true ∧ ∀ K : Act → World → Prop, Hid (∀ a w, S w → HM P ops Q S r a w → K a w) → o.wp P a w K Q) ∨
       (Region.wanted o (yielded ops a.tmps) = false ∧ HM P ops Q S r (a.put o.dst undef) w))
  | .two i j :: r, a, w => ∃ oi oj, ops[i]? = some oi ∧ ops[j]? = some oj ∧ Region.wanted oi (yielded ops a.tmps) = true ∧ Region.wanted oj (yielded ops a.tmps) = true ∧
      (∀ K : Act → World → Prop, Hid (∀ a1 w1, S w1 → Region.wanted oj (yielded ops a1.tmps) = true → (∀ K2 : Act → World → Prop, Hid (∀ a2 w2, S w2 → HM P ops Q S r a2 w2 → K2 a2 w2) → oj.wp P a1 w1 K2 Q) → K a1 w1) → oi.wp P a w K Q) ∧
      (∀ K : Act → World → Prop, Hid (∀ a1 w1, S w1 → Region.wanted oi (yielded ops a1.tmps) = true → (∀ K2 : Act → World → Prop, Hid (∀ a2 w2, S w2 → HM P ops Q S r a2 w2 → K2 a2 w2) → oi.wp P a1 w1 K2 Q) → K a1 w1) → oj.wp P a w K Q)
def planM (md : Region.Mode) (ops : Array Oper) : List Stp → Array Bool → Bool
  | [], l => (Region.ready md ops l).isEmpty
  | .take i :: r, l => Region.free md ops l i && (Region.ready md ops l).contains i && planM md ops r (l.setIfInBounds i true)
  | .one i :: r, l => (Region.ready md ops l == [i]) && planM md ops r (l.setIfInBounds i true)
  | .two i j :: r, l => (i != j) && (Region.ready md ops l == [i, j]) && (Region.ready md ops (l.setIfInBounds i true) == [j]) && (Region.ready md ops (l.setIfInBounds j true) == [i]) && planM md ops r ((l.setIfInBounds i true).setIfInBounds j true)
theorem HM.sound (hs : Region.noSelect ops = true) (hQ : ∀ c t t' d w, Q (.panic c) ⟨t, d⟩ w → Q (.panic c) ⟨t', d⟩ w) : ∀ (p : List Stp) (l : Array Bool) (a : Act) (w : World), planM md ops p l = true → S w → HM P ops Q S p a w → wpAnyH P md ops Q S (stpN p) l a w
  | [], l, a, w, hp, hS, h => by
    simp only [planM, List.isEmpty_iff] at hp
    exact wpAnyH_done hp h _
  | .take i :: r, l, a, w, hp, hS, h => by
    simp only [planM, Bool.and_eq_true] at hp
    obtain ⟨o, ho, ⟨hw, v, hy, h⟩ | ⟨hw, h⟩⟩ := h
    · exact held_take i v ho hs hp.1.1 hp.1.2 hQ hw hS hy (HM.sound hs hQ r _ _ _ hp.2 hS h)
    · exact held_skip i ho hs hp.1.1 hp.1.2 hQ hw hS (HM.sound hs hQ r _ _ _ hp.2 hS h)
  | .one i :: r, l, a, w, hp, hS, h => by
    simp only [planM, Bool.and_eq_true, beq_iff_eq] at hp
    obtain ⟨o, ho, ⟨hw, h⟩ | ⟨hw, h⟩⟩ := h
    · exact held_one i hp.1 ho hw (fun K hK => h K (fun a w hS' h' => hK.out a w hS' (HM.sound hs hQ r _ _ _ hp.2 hS' h')))
    · refine wpAnyH_ready hp.1 (by simp) (AllReadyH.cons ho (fun K hK => ?_) AllReadyH.nil)
      rw [if_neg (by rw [hw]; decide)]
      exact hK _ w hS (fun _ => HM.sound hs hQ r _ _ _ hp.2 hS h)
  | .two i j :: r, l, a, w, hp, hS, h => by
    simp only [planM, Bool.and_eq_true, beq_iff_eq, bne_iff_ne, ne_eq] at hp
    obtain ⟨⟨⟨⟨hij, p1⟩, p2⟩, p3⟩, p4⟩ := hp
    obtain ⟨oi, oj, hi, hj, wi, wj, h1, h2⟩ := h
    refine held_pair i j p1 hi hj wi wj (fun K hK => h1 K (fun a1 w1 hS1 hw1 k1 => hK.out a1 w1 hS1 (held_one j p2 hj hw1 (fun K2 hK2 => k1 K2 (fun a2 w2 hS2 h' => hK2.out a2 w2 hS2 (HM.sound hs hQ r _ _ _ p4 hS2 h')))))) (fun K hK => h2 K (fun a1 w1 hS1 hw1 k1 => hK.out a1 w1 hS1 (held_one i p3 hi hw1 (fun K2 hK2 => k1 K2 (fun a2 w2 hS2 h' => hK2.out a2 w2 hS2 ?_)))))
    rw [show (l.setIfInBounds j true).setIfInBounds i true = (l.setIfInBounds i true).setIfInBounds j true from Array.setIfInBounds_comm _ _ (fun e => hij e.symm)]
    exact HM.sound hs hQ r _ _ _ p4 hS2 h'
theorem hm_take {i : Nat} {r : List Stp} (v : Value) {o : Oper} {a : Act} {w : World} (hi : ops[i]? = some o) (hw : Region.wanted o (yielded ops a.tmps) = true)
    (hy : ∀ W, S W → (execOp a.eval o).run P W = .ok (.value v) W) (h : HM P ops Q S r (a.put o.dst v) w) : HM P ops Q S (.take i :: r) a w := ⟨o, hi, .inl ⟨hw, v, hy, h⟩⟩
theorem hm_skip {i : Nat} {r : List Stp} {o : Oper} {a : Act} {w : World} (hi : ops[i]? = some o) (hw : Region.wanted o (yielded ops a.tmps) = false)
    (h : HM P ops Q S r (a.put o.dst undef) w) : HM P ops Q S (.take i :: r) a w := ⟨o, hi, .inr ⟨hw, h⟩⟩
theorem hm_skip1 {i : Nat} {r : List Stp} {o : Oper} {a : Act} {w : World} (hi : ops[i]? = some o) (hw : Region.wanted o (yielded ops a.tmps) = false)
    (h : HM P ops Q S r (a.put o.dst undef) w) : HM P ops Q S (.one i :: r) a w := ⟨o, hi, .inr ⟨hw, h⟩⟩
theorem hm_one {i : Nat} {r : List Stp} {o : Oper} {a : Act} {w : World} (hi : ops[i]? = some o) (hw : Region.wanted o (yielded ops a.tmps) = true)
    (h : ∀ K : Act → World → Prop, Hid (∀ a w, S w → HM P ops Q S r a w → K a w) → o.wp P a w K Q) : HM P ops Q S (.one i :: r) a w := ⟨o, hi, .inl ⟨hw, h⟩⟩
theorem hm_done {a : Act} {w : World} (h : Q .normal a w) : HM P ops Q S [] a w := h
theorem put_comm (a : Act) {d e : Tmp} (h : d ≠ e) (u v : Value) : (a.put (some d) u).put (some e) v = (a.put (some e) v).put (some d) u := by
  unfold Act.put
  simp only
  rw [show (a.tmps.setIfInBounds d u).setIfInBounds e v = (a.tmps.setIfInBounds e v).setIfInBounds d u from Array.setIfInBounds_comm _ _ h]
/-- Two that are ready: V is what both orders leave: the two values, the world. -/
theorem hm_two {i j : Nat} {r : List Stp} (V : Value → Value → World → Prop) {oi oj : Oper} {a : Act} {w : World} {d e : Tmp} (hi : ops[i]? = some oi) (hj : ops[j]? = some oj) (hd : oi.dst = some d) (he : oj.dst = some e) (hde : d ≠ e)
    (wi : Region.wanted oi (yielded ops a.tmps) = true) (wj : Region.wanted oj (yielded ops a.tmps) = true)
    (wj' : ∀ v, Region.wanted oj (yielded ops (a.put (some d) v).tmps) = true) (wi' : ∀ v, Region.wanted oi (yielded ops (a.put (some e) v).tmps) = true)
    (h1 : ∀ K : Act → World → Prop, Hid (∀ a1 u w1, a1 = a.put (some d) u → S w1 → (∀ K2 : Act → World → Prop, Hid (∀ a2 v w2, a2 = a1.put (some e) v → S w2 → V u v w2 → K2 a2 w2) → oj.wp P a1 w1 K2 Q) → K a1 w1) → oi.wp P a w K Q)
    (h2 : ∀ K : Act → World → Prop, Hid (∀ a1 v w1, a1 = a.put (some e) v → S w1 → (∀ K2 : Act → World → Prop, Hid (∀ a2 u w2, a2 = a1.put (some d) u → S w2 → V u v w2 → K2 a2 w2) → oi.wp P a1 w1 K2 Q) → K a1 w1) → oj.wp P a w K Q)
    (h : ∀ u v W, V u v W → HM P ops Q S r ((a.put (some d) u).put (some e) v) W) : HM P ops Q S (.two i j :: r) a w := by
  refine ⟨oi, oj, hi, hj, wi, wj, fun K hK => h1 K (fun a1 u w1 ha hS k => ?_), fun K hK => h2 K (fun a1 v w1 ha hS k => ?_)⟩
  · refine hK.out a1 w1 hS (by rw [ha]; exact wj' u) (fun K2 hK2 => k K2 (fun a2 v w2 ha2 hS2 hV => hK2.out a2 w2 hS2 ?_))
    rw [ha2, ha]
    exact h u v w2 hV
  · refine hK.out a1 w1 hS (by rw [ha]; exact wi' v) (fun K2 hK2 => k K2 (fun a2 u w2 ha2 hS2 hV => hK2.out a2 w2 hS2 ?_))
    rw [ha2, ha, put_comm a (fun e => hde e.symm)]
    exact h u v w2 hV
end
/-! The plan off three tables. -/
def oneN (tab : List (List Nat × List Nat × Nat)) (i m : Nat) : Bool := match tab[i]? with
  | none => false
  | some x => !m.testBit i && rdyN x.1 m && allN (fun j y => j == i || m.testBit j || !rdyN y.1 m) 0 tab
def twoN (tab : List (List Nat × List Nat × Nat)) (i j m : Nat) : Bool := match tab[i]?, tab[j]? with
  | some x, some y => decide (i < j) && !m.testBit i && rdyN x.1 m && !m.testBit j && rdyN y.1 m && allN (fun k z => k == i || k == j || m.testBit k || !rdyN z.1 m) 0 tab
  | _, _ => false
def planNM (tab : List (List Nat × List Nat × Nat)) : List Stp → Nat → Bool
  | [], m => allN (fun j _ => m.testBit j) 0 tab
  | .take i :: r, m => (match tab[i]? with
    | none => false
    | some x => !m.testBit i && rdyN x.1 m && allN (fun j y => j == i || m.testBit j || y.1.contains i || apN x y) 0 tab) && planNM tab r (m ||| 2 ^ i)
  | .one i :: r, m => oneN tab i m && planNM tab r (m ||| 2 ^ i)
  | .two i j :: r, m => twoN tab i j m && oneN tab j (m ||| 2 ^ i) && oneN tab i (m ||| 2 ^ j) && planNM tab r (m ||| 2 ^ i ||| 2 ^ j)
structure RelN (ops : Array Oper) (l : Array Bool) (m : Nat) : Prop where
  hl : ∀ j, j < ops.size → l.getD j true = m.testBit j
  hs : l.size = ops.size
  hm : ∀ j, ops.size ≤ j → m.testBit j = false
section
variable {ops : Array Oper} {l : Array Bool} {m : Nat} {tab : List (List Nat × List Nat × Nat)}
theorem RelN.set (h : RelN ops l m) {i : Nat} (hi : i < ops.size) : RelN ops (l.setIfInBounds i true) (m ||| 2 ^ i) := by
  refine ⟨fun j hj => ?_, by simpa using h.hs, fun j hj => ?_⟩
  · rw [Nat.testBit_or, Nat.testBit_two_pow]
    by_cases hji : i = j
    · subst hji
      have := h.hs
      simp [Array.getD_eq_getD_getElem?, show i < l.size by omega]
    · have hq : ((l.setIfInBounds i true)[j]?).getD true = (l[j]?).getD true := by rw [Array.getElem?_setIfInBounds_ne hji]
      rw [Array.getD_eq_getD_getElem?, hq, ← Array.getD_eq_getD_getElem?, h.hl j hj]
      simp [hji]
  · rw [Nat.testBit_or, Nat.testBit_two_pow, h.hm j hj]
    simp
    omega
theorem row_of (ht : ops.toList.map (rowN ops) = tab) {i : Nat} {x : List Nat × List Nat × Nat} (hx : tab[i]? = some x) : ∃ hi : i < ops.size, ops[i]? = some (ops[i]'hi) ∧ x = rowN ops (ops[i]'hi) := by
  have hi : i < ops.size := by
    rcases Nat.lt_or_ge i ops.size with k | k
    · exact k
    · rw [← ht, List.getElem?_eq_none (by simpa using k)] at hx; cases hx
  refine ⟨hi, by simp [hi], ?_⟩
  rw [← ht] at hx
  simpa [hi] using hx.symm
theorem oneN_ready (ht : ops.toList.map (rowN ops) = tab) (h : RelN ops l m) {i : Nat} (ho : oneN tab i m = true) : Region.ready .any ops l = [i] ∧ i < ops.size := by
  unfold oneN at ho
  cases hx : tab[i]? with
  | none => rw [hx] at ho; cases ho
  | some x =>
    rw [hx] at ho
    simp only [Bool.and_eq_true] at ho
    obtain ⟨⟨h1, h2⟩, h3⟩ := ho
    obtain ⟨hi, hoi, rfl⟩ := row_of ht hx
    refine ⟨filter_one hi (by rw [ready_at h.hl h.hs h.hm hoi, h1, h2]; rfl) (fun j hj hne => ?_), hi⟩
    have hoj : ops[j]? = some ops[j] := by simp [hj]
    have hrj : tab[j]? = some (rowN ops ops[j]) := by rw [← ht]; simp [hj]
    have := allN_spec h3 j _ hrj
    rw [Nat.zero_add] at this
    rw [ready_at h.hl h.hs h.hm hoj]
    simp only [Bool.or_eq_true, beq_iff_eq, hne, false_or] at this
    rcases this with k | k
    · rw [k]; rfl
    · rw [Bool.not_eq_true'] at k
      rw [k]; simp
theorem filter_pair {n i j : Nat} {f : Nat → Bool} (hij : i < j) (hj : j < n) (hi : f i = true) (hj' : f j = true) (h0 : ∀ k, k < n → k ≠ i → k ≠ j → f k = false) : (List.range n).filter f = [i, j] := by
  induction n with
  | zero => omega
  | succ n ih =>
    rw [List.range_succ, List.filter_append]
    by_cases hn : j = n
    · subst hn
      rw [filter_one hij hi (fun k hk hne => h0 k (by omega) hne (by omega))]
      simp [hj']
    · rw [ih (by omega) (fun k hk => h0 k (by omega))]
      simp [h0 n (by omega) (by omega) (fun e => hn e.symm)]
theorem twoN_ready (ht : ops.toList.map (rowN ops) = tab) (h : RelN ops l m) {i j : Nat} (ho : twoN tab i j m = true) : Region.ready .any ops l = [i, j] ∧ i < j ∧ j < ops.size := by
  unfold twoN at ho
  cases hx : tab[i]? with
  | none => rw [hx] at ho; cases ho
  | some x =>
  cases hy : tab[j]? with
  | none => rw [hx, hy] at ho; cases ho
  | some y =>
    rw [hx, hy] at ho
    simp only [Bool.and_eq_true, decide_eq_true_eq] at ho
    obtain ⟨⟨⟨⟨⟨hij, h1⟩, h2⟩, h4⟩, h5⟩, h3⟩ := ho
    obtain ⟨hi, hoi, rfl⟩ := row_of ht hx
    obtain ⟨hj, hoj, rfl⟩ := row_of ht hy
    refine ⟨filter_pair hij hj (by rw [ready_at h.hl h.hs h.hm hoi, h1, h2]; rfl) (by rw [ready_at h.hl h.hs h.hm hoj, h4, h5]; rfl) (fun k hk hki hkj => ?_), hij, hj⟩
    have hok : ops[k]? = some ops[k] := by simp [hk]
    have hrk : tab[k]? = some (rowN ops ops[k]) := by rw [← ht]; simp [hk]
    have := allN_spec h3 k _ hrk
    rw [Nat.zero_add] at this
    rw [ready_at h.hl h.hs h.hm hok]
    simp only [Bool.or_eq_true, beq_iff_eq, hki, hkj, false_or] at this
    rcases this with q | q
    · rw [q]; rfl
    · rw [Bool.not_eq_true'] at q
      rw [q]; simp
theorem planNM_sound (ht : ops.toList.map (rowN ops) = tab) : ∀ (p : List Stp) (l : Array Bool) (m : Nat), RelN ops l m → planNM tab p m = true → planM .any ops p l = true
  | [], l, m, hr, h => by
    simp only [planNM] at h
    simp only [planM, List.isEmpty_iff, Region.ready, List.filter_eq_nil_iff, List.mem_range]
    intro j hj
    have ho : ops[j]? = some ops[j] := by simp [hj]
    have hrj : tab[j]? = some (rowN ops ops[j]) := by rw [← ht]; simp [hj]
    have := allN_spec h j _ hrj
    rw [Nat.zero_add] at this
    rw [hr.hl j hj, this]
    simp
  | .take i :: r, l, m, hr, h => by
    simp only [planNM, Bool.and_eq_true] at h
    obtain ⟨h, h4⟩ := h
    cases hx : tab[i]? with
    | none => rw [hx] at h; cases h
    | some x =>
      rw [hx] at h
      simp only [Bool.and_eq_true] at h
      obtain ⟨⟨h1, h2⟩, h3⟩ := h
      obtain ⟨hi, ho, rfl⟩ := row_of ht hx
      simp only [planM, Bool.and_eq_true]
      refine ⟨⟨free_at hr.hl ht ho h3, ?_⟩, planNM_sound ht r _ _ (hr.set hi) h4⟩
      rw [List.contains_iff_mem]
      exact List.mem_filter.2 ⟨List.mem_range.2 hi, by rw [ready_at hr.hl hr.hs hr.hm ho, h1, h2]; rfl⟩
  | .one i :: r, l, m, hr, h => by
    simp only [planNM, Bool.and_eq_true] at h
    obtain ⟨e, hi⟩ := oneN_ready ht hr h.1
    simp only [planM, Bool.and_eq_true, beq_iff_eq]
    exact ⟨e, planNM_sound ht r _ _ (hr.set hi) h.2⟩
  | .two i j :: r, l, m, hr, h => by
    simp only [planNM, Bool.and_eq_true] at h
    obtain ⟨⟨⟨h1, h2⟩, h3⟩, h4⟩ := h
    obtain ⟨e, hij, hj⟩ := twoN_ready ht hr h1
    have hi : i < ops.size := by omega
    simp only [planM, Bool.and_eq_true, beq_iff_eq, bne_iff_ne, ne_eq]
    exact ⟨⟨⟨⟨by omega, e⟩, (oneN_ready ht (hr.set hi) h2).1⟩, (oneN_ready ht (hr.set hj) h3).1⟩, planNM_sound ht r _ _ ((hr.set hi).set hj) h4⟩
end
/-- The beginning. -/
theorem hm_begin {P : Program} {ops : Array Oper} {Q : Exit → Act → World → Prop} {id : Nat} {a : Act} {w : World} (S : World → Prop) (p : List Stp) (tab : List (List Nat × List Nat × Nat)) (hm : P.follows .mixedOrders = true) (hs : Region.noSelect ops = true)
    (ht : ops.toList.map (rowN ops) = tab) (hp : planNM tab p 0 = true) (hn : stpN p = ops.size) (hQ : ∀ c t t' d w, Q (.panic c) ⟨t, d⟩ w → Q (.panic c) ⟨t', d⟩ w) (hS : S w.drew)
    (h : HM P ops Q S p a w.drew) : (Code.region id ops true).wp P Q a w :=
  held_begin S hm hS (by
    have := HM.sound (md := .any) hs hQ p (Array.replicate ops.size false) a _ (planNM_sound ht p _ 0 ⟨fun j hj => by simp [Array.getD_eq_getD_getElem?, hj], by simp, fun j _ => Nat.zero_testBit j⟩ hp) hS h
    rwa [hn] at this)
end Go.Proofs.YtechagciefhpbaaDoor
