/-
  A region that draws its order, walked by a plan, whose last operation waits for all others: behind it the condition on the world need not hold. No condition.
-/
import Derived.Test.YtechagciefhpbaaDoorHlN
namespace Go.Proofs.YtechagciefhpbaaDoor
set_option linter.unusedSimpArgs false
set_option linter.unusedVariables false
set_option linter.unnecessarySimpa false
open Go.RowKit
section
variable {P : Program} {ops : Array Oper} {Q : Exit → Act → World → Prop} {md : Region.Mode} {S : World → Prop} {z : Nat}
/-- Operation j waits for operation k, through others. -/
inductive Waits (md : Region.Mode) (ops : Array Oper) : Nat → Nat → Prop
  | one {j k : Nat} {o : Oper} {e : Edge} (ho : ops[j]? = some o) (he : e ∈ o.after) (hb : Region.binds md e = true) (hk : e.on = k) : Waits md ops j k
  | more {j m k : Nat} (h1 : Waits md ops j m) (h2 : Waits md ops m k) : Waits md ops j k
def Closed (md : Region.Mode) (ops : Array Oper) (l : Array Bool) : Prop := ∀ k o, ops[k]? = some o → l.getD k false = true → ∀ e ∈ o.after, Region.binds md e = true → l.getD e.on false = true
theorem Closed.waits {l : Array Bool} (h : Closed md ops l) {m k : Nat} (hw : Waits md ops m k) : l.getD m false = true → l.getD k false = true := by
  induction hw with
  | one ho he hb hk => exact fun hm => hk ▸ h _ _ ho hm _ he hb
  | more _ _ i1 i2 => exact fun hm => i2 (i1 hm)
theorem Closed.ready {l : Array Bool} (h : Closed md ops l) {j k : Nat} (hj : j ∈ Region.ready md ops l) (hw : Waits md ops j k) : l.getD k false = true := by
  induction hw with
  | one ho he hb hk =>
    obtain ⟨_, o', ho', hall⟩ := mem_ready.1 hj
    rw [ho] at ho'
    injection ho' with ho'
    subst ho'
    exact hk ▸ hall _ he hb
  | more _ h2 i1 _ => exact h.waits h2 (i1 hj)
theorem Closed.set {l : Array Bool} (h : Closed md ops l) {j : Nat} (hj : j ∈ Region.ready md ops l) : Closed md ops (l.setIfInBounds j true) := by
  intro k o ho hk e he hb
  by_cases hjk : j = k
  · subst hjk
    obtain ⟨_, o', ho', hall⟩ := mem_ready.1 hj
    rw [ho] at ho'
    injection ho' with ho'
    subst ho'
    exact getD_set_true (hall e he hb)
  · rw [getD_set_ne false hjk] at hk
    exact getD_set_true (h k o ho hk e he hb)
theorem Closed.none (n : Nat) : Closed md ops (Array.replicate n false) := by
  intro k o ho hk
  exfalso
  rw [Array.getD_eq_getD_getElem?, Array.getElem?_replicate] at hk
  split at hk <;> simp at hk
/-- Whatever order is picked from here on; S holds behind every operation that is carried out, but the last one. -/
def wpAnyX (P : Program) (md : Region.Mode) (ops : Array Oper) (Q : Exit → Act → World → Prop) (S : World → Prop) (z : Nat) : Nat → Array Bool → Act → World → Prop
  | 0, listed, a, w => Region.ready md ops listed = [] ∧ Q .normal a w
  | fuel + 1, listed, a, w =>
    (Region.ready md ops listed = [] → Q .normal a w) ∧
    ∀ i ∈ Region.ready md ops listed, wpOp P ops Q i (fun a' w' => (i ≠ z → S w') ∧ wpAnyX P md ops Q S z fuel (listed.setIfInBounds i true) a' w') a w
theorem wpAny_of_X : ∀ (fuel : Nat) (listed : Array Bool) (a : Act) (w : World), wpAnyX P md ops Q S z fuel listed a w → wpAny P md ops Q fuel listed a w
  | 0, _, _, _, h => h
  | fuel + 1, _, _, _, h => ⟨h.1, fun i hi => wpOp_mono (fun a' w' h' => wpAny_of_X fuel _ a' w' h'.2) (h.2 i hi)⟩
theorem wpAnyX_first (hz : ∀ k, k < ops.size → k ≠ z → Waits md ops z k) {i : Nat} {oi : Oper} {v : Value} (hi : ops[i]? = some oi) (hsel : ∀ (j : Nat) (o : Oper) cs b, ops[j]? = some o → o.op ≠ .select cs b)
    (hQ : ∀ c a w, Q (.panic c) (a.put oi.dst v) w → Q (.panic c) a w) :
    ∀ (fuel : Nat) (listed : Array Bool) (a : Act) (w : World), Closed md ops listed →
      (∀ j oj, ops[j]? = some oj → j ≠ i → listed.getD j true = false → (∀ e ∈ oj.after, Region.binds md e = true → e.on ≠ i) → oi.apart ops oj = true) →
      i ∈ Region.ready md ops listed → YieldsIf P ops S oi v a → S w →
      wpAnyX P md ops Q S z fuel (listed.setIfInBounds i true) (a.put oi.dst v) w → wpAnyX P md ops Q S z (fuel + 1) listed a w := by
  intro fuel
  induction fuel with
  | zero =>
    intro listed a w _ _ hr hy hS H
    refine ⟨fun h => (by rw [h] at hr; cases hr), fun j hj => ?_⟩
    by_cases hji : j = i
    · subst hji; exact hy.wpOp hi hS ⟨fun _ => hS, H⟩
    · have := ready_mono hj hji
      rw [H.1] at this
      cases this
  | succ fuel ih =>
    intro listed a w hcl hfree hr hy hS H
    refine ⟨fun h => (by rw [h] at hr; cases hr), fun j hj => ?_⟩
    by_cases hji : j = i
    · subst hji; exact hy.wpOp hi hS ⟨fun _ => hS, H⟩
    · have h1 := H.2 j (ready_mono hj hji)
      obtain ⟨hjun, oj, hoj, hall⟩ := mem_ready.1 hj
      have hun : ∀ k, k ∈ Region.ready md ops listed → listed.getD k false = true → False := fun k hk h2 => by
        have h0 := (mem_ready.1 hk).1
        rcases Nat.lt_or_ge k listed.size with h' | h'
        · simp [h'] at h0 h2; rw [h0] at h2; cases h2
        · simp [Array.getElem?_eq_none h'] at h2
      have hnot : ∀ e ∈ oj.after, Region.binds md e = true → e.on ≠ i := fun e he hb heq => hun i hr (heq ▸ hall e he hb)
      have hjz : j ≠ z := fun e => hun i hr (hcl.ready hj (e ▸ hz i (Array.getElem?_eq_some_iff.1 hi).1 (fun e2 => hji (e.trans e2.symm))))
      have h2 := wpOp_putIf hoj (hfree j oj hoj hji hjun hnot) (fun cs b => hsel i oi cs b hi) (fun cs b => hsel j oj cs b hoj) hQ hy h1
      have hfree' : ∀ k ok, ops[k]? = some ok → k ≠ i → (listed.setIfInBounds j true).getD k true = false →
          (∀ e ∈ ok.after, Region.binds md e = true → e.on ≠ i) → oi.apart ops ok = true := fun k ok hk hki hun hno => by
        refine hfree k ok hk hki ?_ hno
        by_cases hjk : j = k
        · subst hjk; exact hjun
        · rw [getD_set_ne true hjk] at hun; exact hun
      refine wpOp_mono (fun a' w' h3 => ⟨h3.2.1, ih (listed.setIfInBounds j true) a' w' (hcl.set hj) hfree' (ready_mono hr (Ne.symm hji)) h3.1 (h3.2.1 hjz) ?_⟩) h2
      rw [Array.setIfInBounds_comm _ _ hji]
      exact h3.2.2
theorem wpAnyX_take (hz : ∀ k, k < ops.size → k ≠ z → Waits md ops z k) {i : Nat} {oi : Oper} {v : Value} {fuel : Nat} {listed : Array Bool} {a : Act} {w : World} (hcl : Closed md ops listed) (hi : ops[i]? = some oi)
    (hs : Region.noSelect ops = true) (hf : Region.free md ops listed i = true) (hr : (Region.ready md ops listed).contains i = true)
    (hQ : ∀ c a w, Q (.panic c) (a.put oi.dst v) w → Q (.panic c) a w) (hy : YieldsIf P ops S oi v a) (hS : S w)
    (h : wpAnyX P md ops Q S z fuel (listed.setIfInBounds i true) (a.put oi.dst v) w) : wpAnyX P md ops Q S z (fuel + 1) listed a w :=
  wpAnyX_first hz hi (Region.noSelect_spec hs) hQ fuel listed a w hcl (Region.free_spec hi hf) (by simpa using hr) hy hS h
/-- The plan: (i, true): taken first, or passed over; (i, false): alone ready. -/
def HX (P : Program) (ops : Array Oper) (Q : Exit → Act → World → Prop) (S : World → Prop) (z : Nat) : List (Nat × Bool) → Act → World → Prop
  | [], a, w => Q .normal a w
  | (i, true) :: r, a, w => ∃ o, ops[i]? = some o ∧
      ((Region.wanted o (yielded ops a.tmps) = true ∧ ∃ v, (∀ W, S W → (execOp a.eval o).run P W = .ok (.value v) W) ∧ HX P ops Q S z r (a.put o.dst v) w) ∨
       (Region.wanted o (yielded ops a.tmps) = false ∧ HX P ops Q S z r (a.put o.dst undef) w))
  | (i, false) :: r, a, w => ∃ o, ops[i]? = some o ∧
      ((Region.wanted o (yielded ops a.tmps) = true ∧ ∀ K : Act → World → Prop, Hid (∀ a w, (i ≠ z → S w) → HX P ops Q S z r a w → K a w) → o.wp P a w K Q) ∨
       (Region.wanted o (yielded ops a.tmps) = false ∧ HX P ops Q S z r (a.put o.dst undef) w))
/-- Behind the last operation nothing is taken first. -/
def lastOK (z : Nat) : List (Nat × Bool) → Bool
  | [] => true
  | (i, _) :: r => (i != z || r.isEmpty) && lastOK z r
theorem HX.sound (hz : ∀ k, k < ops.size → k ≠ z → Waits md ops z k) (hs : Region.noSelect ops = true) (hQ : ∀ c t t' d w, Q (.panic c) ⟨t, d⟩ w → Q (.panic c) ⟨t', d⟩ w) : ∀ (p : List (Nat × Bool)) (l : Array Bool) (a : Act) (w : World), Closed md ops l → planOK md ops p l = true → lastOK z p = true → (p ≠ [] → S w) → HX P ops Q S z p a w → wpAnyX P md ops Q S z p.length l a w
  | [], l, a, w, _, hp, _, hS, h => by
    simp only [planOK, List.isEmpty_iff] at hp
    exact ⟨hp, h⟩
  | (i, true) :: r, l, a, w, hcl, hp, hlz, hS, h => by
    simp only [planOK, Bool.and_eq_true] at hp
    simp only [lastOK, Bool.and_eq_true] at hlz
    have hri : i ∈ Region.ready md ops l := by simpa using hp.1.2
    obtain ⟨o, ho, ⟨hw, v, hy, h⟩ | ⟨hw, h⟩⟩ := h
    · exact wpAnyX_take hz hcl ho hs hp.1.1 hp.1.2 (put_back hQ) (.inl ⟨hw, hy⟩) (hS (by simp)) (HX.sound hz hs hQ r _ _ _ (hcl.set hri) hp.2 hlz.2 (fun _ => hS (by simp)) h)
    · exact wpAnyX_take hz hcl ho hs hp.1.1 hp.1.2 (put_back hQ) (.inr ⟨hw, rfl⟩) (hS (by simp)) (HX.sound hz hs hQ r _ _ _ (hcl.set hri) hp.2 hlz.2 (fun _ => hS (by simp)) h)
  | (i, false) :: r, l, a, w, hcl, hp, hlz, hS, h => by
    simp only [planOK, Bool.and_eq_true, beq_iff_eq] at hp
    simp only [lastOK, Bool.and_eq_true, Bool.or_eq_true, List.isEmpty_iff, bne_iff_ne] at hlz
    have hri : i ∈ Region.ready md ops l := by rw [hp.1]; simp
    have hnext : ∀ w', (i ≠ z → S w') → r ≠ [] → S w' := fun w' h1 h2 => h1 (hlz.1.resolve_right h2)
    obtain ⟨o, ho, ⟨hw, h⟩ | ⟨hw, h⟩⟩ := h
    · refine ⟨fun h0 => absurd (hp.1 ▸ h0) (by simp), fun j hj => ?_⟩
      rw [hp.1] at hj
      simp only [List.mem_singleton] at hj
      subst hj
      unfold wpOp
      simp only [ho]
      rw [if_pos hw]
      exact .inl (h _ (Lib.hid fun a w h1 h2 => ⟨h1, HX.sound hz hs hQ r _ _ _ (hcl.set hri) hp.2 hlz.2 (hnext w h1) h2⟩))
    · refine ⟨fun h0 => absurd (hp.1 ▸ h0) (by simp), fun j hj => ?_⟩
      rw [hp.1] at hj
      simp only [List.mem_singleton] at hj
      subst hj
      unfold wpOp
      simp only [ho]
      rw [if_neg (by rw [hw]; decide)]
      exact ⟨fun _ => hS (by simp), HX.sound hz hs hQ r _ _ _ (hcl.set hri) hp.2 hlz.2 (fun _ => hS (by simp)) h⟩
/-- Who waits for whom: each number with one that waits for it and stands ahead. -/
def certOK (md : Region.Mode) (ops : Array Oper) : List (Nat × Nat) → List Nat → Bool
  | [], _ => true
  | (k, s) :: r, d => d.contains s && ((ops[s]?).map fun o => o.after.any fun e => Region.binds md e && e.on == k).getD false && certOK md ops r (k :: d)
def certAll : List (Nat × Nat) → List Nat → List Nat
  | [], d => d
  | (k, _) :: r, d => certAll r (k :: d)
theorem certOK_spec : ∀ (c : List (Nat × Nat)) (d : List Nat), certOK md ops c d = true → (∀ k ∈ d, k ≠ z → Waits md ops z k) → ∀ k ∈ certAll c d, k ≠ z → Waits md ops z k
  | [], _, _, hd => hd
  | (k, s) :: r, d, h, hd => by
    simp only [certOK, Bool.and_eq_true, List.contains_iff_mem] at h
    obtain ⟨⟨hs, he⟩, hr⟩ := h
    refine certOK_spec r (k :: d) hr (fun m hm hne => ?_)
    rcases List.mem_cons.1 hm with rfl | hm
    · have hone : Waits md ops s m := by
        cases ho : ops[s]? with
        | none => rw [ho] at he; cases he
        | some o =>
          rw [ho] at he
          simp only [Option.map_some, Option.getD_some, Array.any_eq_true', Bool.and_eq_true, beq_iff_eq] at he
          obtain ⟨e, h1, h2, h3⟩ := he
          exact .one ho h1 h2 h3
      by_cases hsz : s = z
      · exact hsz ▸ hone
      · exact .more (hd s hs hsz) hone
    · exact hd m hm hne
theorem hx_begin {id : Nat} {a : Act} {w : World} (S : World → Prop) (z : Nat) (p : List (Nat × Bool)) (c : List (Nat × Nat)) (hm : P.follows .mixedOrders = true) (hs : Region.noSelect ops = true)
    (hp : planOK .any ops p (Array.replicate ops.size false) = true) (hlz : lastOK z p = true) (hn : p.length = ops.size) (hc : certOK .any ops c [z] = true) (hall : (List.range ops.size).all (fun k => (certAll c [z]).contains k) = true)
    (hQ : ∀ c t t' d w, Q (.panic c) ⟨t, d⟩ w → Q (.panic c) ⟨t', d⟩ w) (hS : S w.drew)
    (h : HX P ops Q S z p a w.drew) : (Code.region id ops true).wp P Q a w := by
  have hz : ∀ k, k < ops.size → k ≠ z → Waits .any ops z k := fun k hk hne => by
    have h1 := List.all_eq_true.1 hall k (List.mem_range.2 hk)
    exact certOK_spec c [z] hc (fun m hm hmz => absurd (by simpa using hm) hmz) k (by simpa using h1) hne
  have := HX.sound hz hs hQ p _ a w.drew (Closed.none _) hp hlz (fun _ => hS) h
  rw [hn] at this
  exact wp_region_any hm (wpAny_of_X _ _ _ _ this)
theorem hx_take {i : Nat} {r : List (Nat × Bool)} (v : Value) {o : Oper} {a : Act} {w : World} (hi : ops[i]? = some o) (hw : Region.wanted o (yielded ops a.tmps) = true)
    (hy : ∀ W, S W → (execOp a.eval o).run P W = .ok (.value v) W) (h : HX P ops Q S z r (a.put o.dst v) w) : HX P ops Q S z ((i, true) :: r) a w := ⟨o, hi, .inl ⟨hw, v, hy, h⟩⟩
theorem hx_skip {i : Nat} {r : List (Nat × Bool)} {o : Oper} {a : Act} {w : World} (hi : ops[i]? = some o) (hw : Region.wanted o (yielded ops a.tmps) = false)
    (h : HX P ops Q S z r (a.put o.dst undef) w) : HX P ops Q S z ((i, true) :: r) a w := ⟨o, hi, .inr ⟨hw, h⟩⟩
theorem hx_skip1 {i : Nat} {r : List (Nat × Bool)} {o : Oper} {a : Act} {w : World} (hi : ops[i]? = some o) (hw : Region.wanted o (yielded ops a.tmps) = false)
    (h : HX P ops Q S z r (a.put o.dst undef) w) : HX P ops Q S z ((i, false) :: r) a w := ⟨o, hi, .inr ⟨hw, h⟩⟩
theorem hx_one {i : Nat} {r : List (Nat × Bool)} {o : Oper} {a : Act} {w : World} (_hne : i ≠ z) (hi : ops[i]? = some o) (hw : Region.wanted o (yielded ops a.tmps) = true)
    (h : ∀ K : Act → World → Prop, Hid (∀ a w, S w → HX P ops Q S z r a w → K a w) → o.wp P a w K Q) : HX P ops Q S z ((i, false) :: r) a w :=
  ⟨o, hi, .inl ⟨hw, fun K hK => h K (Lib.hid fun a w h1 h2 => hK.out a w (fun _ => h1) h2)⟩⟩
theorem hx_last {r : List (Nat × Bool)} {o : Oper} {a : Act} {w : World} (hi : ops[z]? = some o) (hw : Region.wanted o (yielded ops a.tmps) = true)
    (h : ∀ K : Act → World → Prop, Hid (∀ a w, HX P ops Q S z r a w → K a w) → o.wp P a w K Q) : HX P ops Q S z ((z, false) :: r) a w :=
  ⟨o, hi, .inl ⟨hw, fun K hK => h K (Lib.hid fun a w h2 => hK.out a w (fun h => absurd rfl h) h2)⟩⟩
theorem hx_done {a : Act} {w : World} (h : Q .normal a w) : HX P ops Q S z [] a w := h
end
end Go.Proofs.YtechagciefhpbaaDoor
