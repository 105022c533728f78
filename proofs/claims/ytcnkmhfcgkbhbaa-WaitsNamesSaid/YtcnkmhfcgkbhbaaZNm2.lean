/-
  Contracts and plain laws that the walk leans on, part 2. No condition.
-/
import Derived.Test.YtcnkmhfcgkbhbaaZNm1
import Derived.Maps.OwnOps
import Derived.Maps.OwnSet
import Derived.Deep.WholeRow
import Derived.Deep.RegionWith
import Derived.Deep.RegionHeld3
import Derived.Deep.LoopGhost
import Derived.Deep.DeepCutAuto
import Derived.Shelf.SlicesE.IndexFunc
import Derived.BigRegion
namespace Go.Proofs.Ytcnkmhfcgkbhbaa
set_option linter.unusedSimpArgs false
set_option linter.unusedVariables false
set_option linter.unnecessarySimpa false
open Go.RowKit
section
variable {P : Program} {ops : Array Oper} {Q : Exit → Act → World → Prop} {md : Region.Mode} {S : World → Prop} {z : Nat}
/-- Operation j waits for operation k, through others. -/
inductive Waits (md : Region.Mode) (ops : Array Oper) : Nat → Nat → Prop
  | one {j k : Nat} {o : Oper} {e : Edge} (ho : ops[j]? = some o) (he : e ∈ o.after) (hb : Region.binds md e = true) (hk : e.on = k) : Waits md ops j k
  | more {j m k : Nat} (h1 : Waits md ops j m) (h2 : Waits md ops m k) : Waits md ops j k
def Closed (md : Region.Mode) (ops : Array Oper) (l : Array Bool) : Prop := ∀ k o, ops[k]? = some o → l.getD k false = true → ∀ e ∈ o.after, Region.binds md e = true → l.getD e.on false = true
theorem Closed.waits {l : Array Bool} (h : Closed md ops l) {m k : Nat} (hw : Waits md ops m k) : l.getD m false = true → l.getD k false = true := by
  induction hw with
  | one ho he hb hk => exact fun hm => hk ▸ h _ _ ho hm _ he hb
  | more _ _ i1 i2 => exact fun hm => i2 (i1 hm)
theorem Closed.ready {l : Array Bool} (h : Closed md ops l) {j k : Nat} (hj : j ∈ Region.ready md ops l) (hw : Waits md ops j k) : l.getD k false = true := by
  induction hw with
  | one ho he hb hk =>
    obtain ⟨_, o', ho', hall⟩ := mem_ready.1 hj
    rw [ho] at ho'
    injection ho' with ho'
    subst ho'
    exact hk ▸ hall _ he hb
  | more _ h2 i1 _ => exact h.waits h2 (i1 hj)
theorem Closed.set {l : Array Bool} (h : Closed md ops l) {j : Nat} (hj : j ∈ Region.ready md ops l) : Closed md ops (l.setIfInBounds j true) := by
  intro k o ho hk e he hb
  by_cases hjk : j = k
  · subst hjk
    obtain ⟨_, o', ho', hall⟩ := mem_ready.1 hj
    rw [ho] at ho'
    injection ho' with ho'
    subst ho'
    exact getD_set_true (hall e he hb)
  · rw [getD_set_ne false hjk] at hk
    exact getD_set_true (h k o ho hk e he hb)
theorem Closed.none (n : Nat) : Closed md ops (Array.replicate n false) := by
  intro k o ho hk
  exfalso
  rw [Array.getD_eq_getD_getElem?, Array.getElem?_replicate] at hk
  split at hk <;> simp at hk
/-- Whatever order is picked from here on; S holds behind every operation that is carried out, but the last one. -/
def wpAnyX (P : Program) (md : Region.Mode) (ops : Array Oper) (Q : Exit → Act → World → Prop) (S : World → Prop) (z : Nat) : Nat → Array Bool → Act → World → Prop
  | 0, listed, a, w => Region.ready md ops listed = [] ∧ Q .normal a w
  | fuel + 1, listed, a, w =>
    (Region.ready md ops listed = [] → Q .normal a w) ∧
    ∀ i ∈ Region.ready md ops listed, wpOp P ops Q i (fun a' w' => (i ≠ z → S w') ∧ wpAnyX P md ops Q S z fuel (listed.setIfInBounds i true) a' w') a w
theorem wpAny_of_X : ∀ (fuel : Nat) (listed : Array Bool) (a : Act) (w : World), wpAnyX P md ops Q S z fuel listed a w → wpAny P md ops Q fuel listed a w
  | 0, _, _, _, h => h
  | fuel + 1, _, _, _, h => ⟨h.1, fun i hi => wpOp_mono (fun a' w' h' => wpAny_of_X fuel _ a' w' h'.2) (h.2 i hi)⟩
theorem wpAnyX_first (hz : ∀ k, k < ops.size → k ≠ z → Waits md ops z k) {i : Nat} {oi : Oper} {v : Value} (hi : ops[i]? = some oi) (hsel : ∀ (j : Nat) (o : Oper) cs b, ops[j]? = some o → o.op ≠ .select cs b)
    (hQ : ∀ c a w, Q (.panic c) (a.put oi.dst v) w → Q (.panic c) a w) :
    ∀ (fuel : Nat) (listed : Array Bool) (a : Act) (w : World), Closed md ops listed →
      (∀ j oj, ops[j]? = some oj → j ≠ i → listed.getD j true = false → (∀ e ∈ oj.after, Region.binds md e = true → e.on ≠ i) → oi.apart ops oj = true) →
      i ∈ Region.ready md ops listed → YieldsIf P ops S oi v a → S w →
      wpAnyX P md ops Q S z fuel (listed.setIfInBounds i true) (a.put oi.dst v) w → wpAnyX P md ops Q S z (fuel + 1) listed a w := by
  intro fuel
  induction fuel with
  | zero =>
    intro listed a w _ _ hr hy hS H
    refine ⟨fun h => (by rw [h] at hr; cases hr), fun j hj => ?_⟩
    by_cases hji : j = i
    · subst hji; exact hy.wpOp hi hS ⟨fun _ => hS, H⟩
    · have := ready_mono hj hji
      rw [H.1] at this
      cases this
  | succ fuel ih =>
    intro listed a w hcl hfree hr hy hS H
    refine ⟨fun h => (by rw [h] at hr; cases hr), fun j hj => ?_⟩
    by_cases hji : j = i
    · subst hji; exact hy.wpOp hi hS ⟨fun _ => hS, H⟩
    · have h1 := H.2 j (ready_mono hj hji)
      obtain ⟨hjun, oj, hoj, hall⟩ := mem_ready.1 hj
      have hun : ∀ k, k ∈ Region.ready md ops listed → listed.getD k false = true → False := fun k hk h2 => by
        have h0 := (mem_ready.1 hk).1
        rcases Nat.lt_or_ge k listed.size with h' | h'
        · simp [h'] at h0 h2; rw [h0] at h2; cases h2
        · simp [Array.getElem?_eq_none h'] at h2
      have hnot : ∀ e ∈ oj.after, Region.binds md e = true → e.on ≠ i := fun e he hb heq => hun i hr (heq ▸ hall e he hb)
      have hjz : j ≠ z := fun e => hun i hr (hcl.ready hj (e ▸ hz i (Array.getElem?_eq_some_iff.1 hi).1 (fun e2 => hji (e.trans e2.symm))))
      have h2 := wpOp_putIf hoj (hfree j oj hoj hji hjun hnot) (fun cs b => hsel i oi cs b hi) (fun cs b => hsel j oj cs b hoj) hQ hy h1
      have hfree' : ∀ k ok, ops[k]? = some ok → k ≠ i → (listed.setIfInBounds j true).getD k true = false →
          (∀ e ∈ ok.after, Region.binds md e = true → e.on ≠ i) → oi.apart ops ok = true := fun k ok hk hki hun hno => by
        refine hfree k ok hk hki ?_ hno
        by_cases hjk : j = k
        · subst hjk; exact hjun
        · rw [getD_set_ne true hjk] at hun; exact hun
      refine wpOp_mono (fun a' w' h3 => ⟨h3.2.1, ih (listed.setIfInBounds j true) a' w' (hcl.set hj) hfree' (ready_mono hr (Ne.symm hji)) h3.1 (h3.2.1 hjz) ?_⟩) h2
      rw [Array.setIfInBounds_comm _ _ hji]
      exact h3.2.2
theorem wpAnyX_take (hz : ∀ k, k < ops.size → k ≠ z → Waits md ops z k) {i : Nat} {oi : Oper} {v : Value} {fuel : Nat} {listed : Array Bool} {a : Act} {w : World} (hcl : Closed md ops listed) (hi : ops[i]? = some oi)
    (hs : Region.noSelect ops = true) (hf : Region.free md ops listed i = true) (hr : (Region.ready md ops listed).contains i = true)
    (hQ : ∀ c a w, Q (.panic c) (a.put oi.dst v) w → Q (.panic c) a w) (hy : YieldsIf P ops S oi v a) (hS : S w)
    (h : wpAnyX P md ops Q S z fuel (listed.setIfInBounds i true) (a.put oi.dst v) w) : wpAnyX P md ops Q S z (fuel + 1) listed a w :=
  wpAnyX_first hz hi (Region.noSelect_spec hs) hQ fuel listed a w hcl (Region.free_spec hi hf) (by simpa using hr) hy hS h
/-- The plan: (i, true): taken first, or passed over; (i, false): alone ready. -/
def HX (P : Program) (ops : Array Oper) (Q : Exit → Act → World → Prop) (S : World → Prop) (z : Nat) : List (Nat × Bool) → Act → World → Prop
  | [], a, w => Q .normal a w
  | (i, true) :: r, a, w => ∃ o, ops[i]? = some o ∧
      ((Region.wanted o (yielded ops a.tmps) = true ∧ ∃ v, (∀ W, S W → (execOp a.eval o).run P W = .ok (.value v) W) ∧ HX P ops Q S z r (a.put o.dst v) w) ∨
       (Region.wanted o (yielded ops a.tmps) = false ∧ HX P ops Q S z r (a.put o.dst undef) w))
  | (i, false) :: r, a, w => ∃ o, ops[i]? = some o ∧
      ((Region.wanted o (yielded ops a.tmps) = true ∧ ∀ K : Act → World → Prop, Hid (∀ a w, (i ≠ z → S w) → HX P ops Q S z r a w → K a w) → o.wp P a w K Q) ∨
       (Region.wanted o (yielded ops a.tmps) = false ∧ HX P ops Q S z r (a.put o.dst undef) w))
/-- Behind the last operation nothing is taken first. -/
def lastOK (z : Nat) : List (Nat × Bool) → Bool
  | [] => true
  | (i, _) :: r => (i != z || r.isEmpty) && lastOK z r
theorem HX.sound (hz : ∀ k, k < ops.size → k ≠ z → Waits md ops z k) (hs : Region.noSelect ops = true) (hQ : ∀ c t t' d w, Q (.panic c) ⟨t, d⟩ w → Q (.panic c) ⟨t', d⟩ w) : ∀ (p : List (Nat × Bool)) (l : Array Bool) (a : Act) (w : World), Closed md ops l → planOK md ops p l = true → lastOK z p = true → (p ≠ [] → S w) → HX P ops Q S z p a w → wpAnyX P md ops Q S z p.length l a w
  | [], l, a, w, _, hp, _, hS, h => by
    simp only [planOK, List.isEmpty_iff] at hp
    exact ⟨hp, h⟩
  | (i, true) :: r, l, a, w, hcl, hp, hlz, hS, h => by
    simp only [planOK, Bool.and_eq_true] at hp
    simp only [lastOK, Bool.and_eq_true] at hlz
    have hri : i ∈ Region.ready md ops l := by simpa using hp.1.2
    obtain ⟨o, ho, ⟨hw, v, hy, h⟩ | ⟨hw, h⟩⟩ := h
    · exact wpAnyX_take hz hcl ho hs hp.1.1 hp.1.2 (put_back hQ) (.inl ⟨hw, hy⟩) (hS (by simp)) (HX.sound hz hs hQ r _ _ _ (hcl.set hri) hp.2 hlz.2 (fun _ => hS (by simp)) h)
    · exact wpAnyX_take hz hcl ho hs hp.1.1 hp.1.2 (put_back hQ) (.inr ⟨hw, rfl⟩) (hS (by simp)) (HX.sound hz hs hQ r _ _ _ (hcl.set hri) hp.2 hlz.2 (fun _ => hS (by simp)) h)
  | (i, false) :: r, l, a, w, hcl, hp, hlz, hS, h => by
    simp only [planOK, Bool.and_eq_true, beq_iff_eq] at hp
    simp only [lastOK, Bool.and_eq_true, Bool.or_eq_true, List.isEmpty_iff, bne_iff_ne] at hlz
    have hri : i ∈ Region.ready md ops l := by rw [hp.1]; simp
    have hnext : ∀ w', (i ≠ z → S w') → r ≠ [] → S w' := fun w' h1 h2 => h1 (hlz.1.resolve_right h2)
    obtain ⟨o, ho, ⟨hw, h⟩ | ⟨hw, h⟩⟩ := h
    · refine ⟨fun h0 => absurd (hp.1 ▸ h0) (by simp), fun j hj => ?_⟩
      rw [hp.1] at hj
      simp only [List.mem_singleton] at hj
      subst hj
      unfold wpOp
      simp only [ho]
      rw [if_pos hw]
      exact .inl (h _ (Lib.hid fun a w h1 h2 => ⟨h1, HX.sound hz hs hQ r _ _ _ (hcl.set hri) hp.2 hlz.2 (hnext w h1) h2⟩))
    · refine ⟨fun h0 => absurd (hp.1 ▸ h0) (by simp), fun j hj => ?_⟩
      rw [hp.1] at hj
      simp only [List.mem_singleton] at hj
      subst hj
      unfold wpOp
      simp only [ho]
      rw [if_neg (by rw [hw]; decide)]
      exact ⟨fun _ => hS (by simp), HX.sound hz hs hQ r _ _ _ (hcl.set hri) hp.2 hlz.2 (fun _ => hS (by simp)) h⟩
/-- Who waits for whom: each number with one that waits for it and stands ahead. -/
def certOK (md : Region.Mode) (ops : Array Oper) : List (Nat × Nat) → List Nat → Bool
  | [], _ => true
  | (k, s) :: r, d => d.contains s && ((ops[s]?).map fun o => o.after.any fun e => Region.binds md e && e.on == k).getD false && certOK md ops r (k :: d)
def certAll : List (Nat × Nat) → List Nat → List Nat
  | [], d => d
  | (k, _) :: r, d => certAll r (k :: d)
theorem certOK_spec : ∀ (c : List (Nat × Nat)) (d : List Nat), certOK md ops c d = true → (∀ k ∈ d, k ≠ z → Waits md ops z k) → ∀ k ∈ certAll c d, k ≠ z → Waits md ops z k
  | [], _, _, hd => hd
  | (k, s) :: r, d, h, hd => by
    simp only [certOK, Bool.and_eq_true, List.contains_iff_mem] at h
    obtain ⟨⟨hs, he⟩, hr⟩ := h
    refine certOK_spec r (k :: d) hr (fun m hm hne => ?_)
    rcases List.mem_cons.1 hm with rfl | hm
    · have hone : Waits md ops s m := by
        cases ho : ops[s]? with
        | none => rw [ho] at he; cases he
        | some o =>
          rw [ho] at he
          simp only [Option.map_some, Option.getD_some, Array.any_eq_true', Bool.and_eq_true, beq_iff_eq] at he
          obtain ⟨e, h1, h2, h3⟩ := he
          exact .one ho h1 h2 h3
      by_cases hsz : s = z
      · exact hsz ▸ hone
      · exact .more (hd s hs hsz) hone
    · exact hd m hm hne
theorem hx_begin {id : Nat} {a : Act} {w : World} (S : World → Prop) (z : Nat) (p : List (Nat × Bool)) (c : List (Nat × Nat)) (hm : P.follows .mixedOrders = true) (hs : Region.noSelect ops = true)
    (hp : planOK .any ops p (Array.replicate ops.size false) = true) (hlz : lastOK z p = true) (hn : p.length = ops.size) (hc : certOK .any ops c [z] = true) (hall : (List.range ops.size).all (fun k => (certAll c [z]).contains k) = true)
    (hQ : ∀ c t t' d w, Q (.panic c) ⟨t, d⟩ w → Q (.panic c) ⟨t', d⟩ w) (hS : S w.drew)
    (h : HX P ops Q S z p a w.drew) : (Code.region id ops true).wp P Q a w := by
  have hz : ∀ k, k < ops.size → k ≠ z → Waits .any ops z k := fun k hk hne => by
    have h1 := List.all_eq_true.1 hall k (List.mem_range.2 hk)
    exact certOK_spec c [z] hc (fun m hm hmz => absurd (by simpa using hm) hmz) k (by simpa using h1) hne
  have := HX.sound hz hs hQ p _ a w.drew (Closed.none _) hp hlz (fun _ => hS) h
  rw [hn] at this
  exact wp_region_any hm (wpAny_of_X _ _ _ _ this)
theorem hx_take {i : Nat} {r : List (Nat × Bool)} (v : Value) {o : Oper} {a : Act} {w : World} (hi : ops[i]? = some o) (hw : Region.wanted o (yielded ops a.tmps) = true)
    (hy : ∀ W, S W → (execOp a.eval o).run P W = .ok (.value v) W) (h : HX P ops Q S z r (a.put o.dst v) w) : HX P ops Q S z ((i, true) :: r) a w := ⟨o, hi, .inl ⟨hw, v, hy, h⟩⟩
theorem hx_one {i : Nat} {r : List (Nat × Bool)} {o : Oper} {a : Act} {w : World} (_hne : i ≠ z) (hi : ops[i]? = some o) (hw : Region.wanted o (yielded ops a.tmps) = true)
    (h : ∀ K : Act → World → Prop, Hid (∀ a w, S w → HX P ops Q S z r a w → K a w) → o.wp P a w K Q) : HX P ops Q S z ((i, false) :: r) a w :=
  ⟨o, hi, .inl ⟨hw, fun K hK => h K (Lib.hid fun a w h1 h2 => hK.out a w (fun _ => h1) h2)⟩⟩
theorem hx_last {r : List (Nat × Bool)} {o : Oper} {a : Act} {w : World} (hi : ops[z]? = some o) (hw : Region.wanted o (yielded ops a.tmps) = true)
    (h : ∀ K : Act → World → Prop, Hid (∀ a w, HX P ops Q S z r a w → K a w) → o.wp P a w K Q) : HX P ops Q S z ((z, false) :: r) a w :=
  ⟨o, hi, .inl ⟨hw, fun K hK => h K (Lib.hid fun a w h2 => hK.out a w (fun h => absurd rfl h) h2)⟩⟩
theorem hx_done {a : Act} {w : World} (h : Q .normal a w) : HX P ops Q S z [] a w := h
end
end Go.Proofs.Ytcnkmhfcgkbhbaa
namespace Go.Proofs.Ytcnkmhfcgkbhbaa
set_option linter.unusedSimpArgs false
set_option linter.unusedVariables false
set_option linter.unnecessarySimpa false
open Go.RowKit Go.MapKept
open Go.ChangeMaps (setBlock modify_eq_set)

/-- What the laws on a map need of its key's type, whose values are ek's. -/
structure KeyEnc (P : Program) (k : TypeId) {K : Type} (ek : K → Value) : Prop where
  inj : ∀ {a b : K}, ek a = ek b → a = b
  check : ∀ (w : World) (em : Bool) (a : K), (Instr.checkKey em 10000 k (ek a)).run P w = .ok () w
  find : ∀ (w : World) (a : K) (es : List MapEntry), (∀ e ∈ es, ∃ b, e.key = ek b) →
    ((Instr.findKey k (ek a) es).run P w = .ok none w ∧ ∀ e ∈ es, e.key ≠ ek a) ∨ ∃ j e, (Instr.findKey k (ek a) es).run P w = .ok (some (j, e.val)) w ∧ es[j]? = some e ∧ e.key = ek a ∧ ∀ i e', i < j → es[i]? = some e' → e'.key ≠ ek a
  stays : ∀ (w : World) (a : K), (Instr.keyThatStays (ek a) (ek a)).run P w = .ok (ek a) w

theorem findNow_first {d : TypeDesc} {k : Value} (hk : IsKey d k) : ∀ (l : List MapEntry) (i : Nat), (∀ x ∈ l, IsKey d x.key) →
    (Instr.findNow d k l i = some none ∧ ∀ x ∈ l, x.key ≠ k) ∨ ∃ j e, Instr.findNow d k l i = some (some (i + j, e.val)) ∧ l[j]? = some e ∧ e.key = k ∧ ∀ q e', q < j → l[q]? = some e' → e'.key ≠ k
  | [], _, _ => .inl ⟨rfl, by simp⟩
  | e :: es, i, h => by
    obtain ⟨r, hr, hiff⟩ := sameNow_of_keys hk (h e (.head _))
    cases r with
    | true => exact .inr ⟨0, e, by simp [Instr.findNow, hr], rfl, (hiff.1 rfl).symm, fun q _ hq => by omega⟩
    | false =>
      have hne : e.key ≠ k := fun e1 => by have := hiff.2 e1.symm; cases this
      rcases findNow_first hk es (i + 1) (fun x hx => h x (.tail _ hx)) with ⟨h1, h2⟩ | ⟨j, e', h1, h2, h3, h4⟩
      · exact .inl ⟨by simp [Instr.findNow, hr, h1], fun x hx => (List.mem_cons.1 hx).elim (fun e1 => e1 ▸ hne) (h2 x)⟩
      · refine .inr ⟨j + 1, e', by simp [Instr.findNow, hr, h1]; omega, by simpa using h2, h3, fun q e2 hq hq2 => ?_⟩
        cases q with
        | zero => simp at hq2; exact hq2 ▸ hne
        | succ q => exact h4 q e2 (by omega) (by simpa using hq2)

/-- Keys of type int. -/
def ekI (a : Int) : Value := .int .i64 a
theorem keyEnc_int {P : Program} {k : TypeId} (hk : P.underlying k = some (.int .i64)) : KeyEnc P k ekI where
  inj h := by injection h
  check w em a := run_checkKey hk (k := ekI a) rfl em 9999
  find w a es hes := by
    have hks : ∀ y ∈ es, IsKey (.int .i64) y.key := fun y hy => by
      obtain ⟨b, hb⟩ := hes y hy
      rw [hb]
      rfl
    rcases findNow_first (d := .int .i64) (k := ekI a) rfl es 0 hks with ⟨h1, h2⟩ | ⟨j, e0, h1, h2, h3, h4⟩
    · exact .inl ⟨run_findKey hk h1, h2⟩
    · exact .inr ⟨j, e0, by simpa using run_findKey hk h1, h2, h3, h4⟩
  stays w a := run_keyThatStays (d := .int .i64) rfl

/-! ### lists of entries -/
section
variable {K V : Type} [DecidableEq K]
def getL (l : List (K × V)) (a : K) : Option V := (l.find? (fun p => decide (p.1 = a))).map (·.2)
def hasL (l : List (K × V)) (a : K) : Bool := l.any (fun p => decide (p.1 = a))
def putL (l : List (K × V)) (a : K) (v : V) : List (K × V) := if hasL l a then l.map (fun p => if p.1 = a then (a, v) else p) else l ++ [(a, v)]
def NodupL (l : List (K × V)) : Prop := (l.map (·.1)).Nodup
theorem hasL_iff {l : List (K × V)} {a : K} : hasL l a = true ↔ a ∈ l.map (·.1) := by
  simp [hasL]
theorem getL_some_iff {l : List (K × V)} (hn : NodupL l) {a : K} {v : V} : getL l a = some v ↔ (a, v) ∈ l := by
  induction l with
  | nil => simp [getL]
  | cons p l ih =>
    obtain ⟨b, u⟩ := p
    unfold NodupL at hn
    simp only [List.map_cons, List.nodup_cons] at hn
    by_cases h : b = a
    · subst h
      have : ∀ v, (b, v) ∉ l := fun v hv => hn.1 (List.mem_map.2 ⟨_, hv, rfl⟩)
      simp [getL, this]
      exact eq_comm
    · have e : getL ((b, u) :: l) a = getL l a := by simp [getL, h]
      rw [e, ih hn.2]
      simp [Ne.symm h]
theorem getL_none_iff {l : List (K × V)} {a : K} : getL l a = none ↔ hasL l a = false := by
  simp [getL, hasL]
theorem getL_isSome {l : List (K × V)} {a : K} : (getL l a).isSome = hasL l a := by
  cases h : getL l a with
  | none => rw [getL_none_iff.1 h]; rfl
  | some v =>
    cases h2 : hasL l a with
    | true => rfl
    | false => rw [getL_none_iff.2 h2] at h; cases h
theorem getL_append {l m : List (K × V)} {a : K} : getL (l ++ m) a = (getL l a).or (getL m a) := by
  simp [getL, List.find?_append]
  cases l.find? (fun p => decide (p.1 = a)) <;> simp
theorem getL_putL (l : List (K × V)) (a b : K) (v : V) : getL (putL l a v) b = if b = a then some v else getL l b := by
  unfold putL
  by_cases hh : hasL l a = true
  · rw [if_pos hh]
    induction l with
    | nil => simp [hasL] at hh
    | cons p l ih =>
      obtain ⟨c, u⟩ := p
      by_cases hc : c = a
      · subst hc
        by_cases hb : b = c
        · subst hb; simp [getL]
        · have h1 : getL (((c, u) :: l).map (fun p => if p.1 = c then (c, v) else p)) b = getL (l.map (fun p => if p.1 = c then (c, v) else p)) b := by simp [getL, Ne.symm hb]
          have h2 : getL ((c, u) :: l) b = getL l b := by simp [getL, Ne.symm hb]
          rw [h1, h2, if_neg hb]
          clear ih hh h1 h2
          induction l with
          | nil => rfl
          | cons q l ih =>
            obtain ⟨d, x⟩ := q
            by_cases hd : d = c
            · subst hd
              have e1 : getL (((d, x) :: l).map (fun p => if p.1 = d then (d, v) else p)) b = getL (l.map (fun p => if p.1 = d then (d, v) else p)) b := by simp [getL, Ne.symm hb]
              have e2 : getL ((d, x) :: l) b = getL l b := by simp [getL, Ne.symm hb]
              rw [e1, e2, ih]
            · by_cases hd2 : d = b
              · subst hd2; simp [getL, hd]
              · have e1 : getL (((d, x) :: l).map (fun p => if p.1 = c then (c, v) else p)) b = getL (l.map (fun p => if p.1 = c then (c, v) else p)) b := by simp [getL, hd, hd2]
                have e2 : getL ((d, x) :: l) b = getL l b := by simp [getL, hd2]
                rw [e1, e2, ih]
      · have hh2 : hasL l a = true := by simpa [hasL, hc] using hh
        by_cases hb : c = b
        · subst hb; simp [getL, hc]
        · have e1 : getL (((c, u) :: l).map (fun p => if p.1 = a then (a, v) else p)) b = getL (l.map (fun p => if p.1 = a then (a, v) else p)) b := by simp [getL, hc, hb]
          have e2 : getL ((c, u) :: l) b = getL l b := by simp [getL, hb]
          rw [e1, e2, ih hh2]
  · have hh2 : hasL l a = false := by simpa using hh
    rw [if_neg hh, getL_append]
    by_cases hb : b = a
    · subst hb
      rw [getL_none_iff.2 hh2]
      simp [getL]
    · rw [if_neg hb]
      have : getL [(a, v)] b = none := by simp [getL, Ne.symm hb]
      rw [this]
      simp
theorem putL_keys (l : List (K × V)) (a : K) (v : V) : (putL l a v).map (·.1) = if hasL l a then l.map (·.1) else l.map (·.1) ++ [a] := by
  unfold putL
  split
  · rw [List.map_map]
    refine List.map_congr_left fun p _ => ?_
    simp only [Function.comp]
    split
    · rename_i h; exact h.symm
    · rfl
  · simp
theorem NodupL.put {l : List (K × V)} (h : NodupL l) (a : K) (v : V) : NodupL (putL l a v) := by
  unfold NodupL at *
  rw [putL_keys]
  split
  · exact h
  · rename_i hh
    rw [List.nodup_append]
    refine ⟨h, by simp, fun x hx y hy => ?_⟩
    simp at hy
    subst hy
    rintro rfl
    exact hh (hasL_iff.2 hx)
end

/-! ### a map's block -/
def MapAt (w : World) (b : Nat) (l : List (Value × Value)) : Prop := ∃ es clock, w.heap[b]? = some (.map es clock) ∧ Stamped es clock ∧ es.toList.map (fun e => (e.key, e.val)) = l
def mapr {K V : Type} (ek : K → Value) (ev : V → Value) (b : Nat) (l : List (K × V)) : Res where
  at_ A w := (∀ x, A x ↔ x = b) ∧ MapAt w b (l.map fun p => (ek p.1, ev p.2))
  lt h x hx := by
    obtain ⟨h1, es, clock, hb, _⟩ := h
    rw [(h1 x).1 hx]
    exact (Array.getElem?_eq_some_iff.1 hb).1
  keep {A w w'} h k := by
    obtain ⟨h1, es, clock, hb, rest⟩ := h
    exact ⟨h1, es, clock, (k.block b (Array.getElem?_eq_some_iff.1 hb).1 ((h1 b).2 rfl)).trans hb, rest⟩
section
variable {P : Program} {K V : Type} {ek : K → Value} {ev : V → Value} {w w' : World} {b : Nat} {l : List (K × V)} {rs : List Res} {k e t : TypeId}
theorem Sep.gmap (h : Sep w (mapr ek ev b l :: rs)) : MapAt w b (l.map fun p => (ek p.1, ev p.2)) := by
  obtain ⟨A, h1, _⟩ := h.out
  exact h1.2
theorem Sep.map_new (h : Sep w rs) (ek : K → Value) (ev : V → Value) : Sep (w.alloc (.map #[] 0)) (mapr ek ev w.heap.size ([] : List (K × V)) :: rs) :=
  h.new (A := fun b => b = w.heap.size) ⟨fun _ => Iff.rfl, #[], 0, (MapKept.heap_alloc w _).1, stamped_empty 0, rfl⟩ (Keeps.alloc w _) (fun b hb => by omega)
theorem Sep.map_nodup (E : KeyEnc P k ek) (h : Sep w (mapr ek ev b l :: rs)) : NodupL l := by
  obtain ⟨es, clock, _, hs, hl⟩ := h.gmap
  have h3 := hs.2.2
  have e : es.toList.map (·.key) = l.map (fun p => ek p.1) := by
    have := congrArg (List.map Prod.fst) hl
    rw [List.map_map, List.map_map] at this
    exact this
  rw [e] at h3
  unfold NodupL
  rw [List.Nodup, List.pairwise_map] at h3 ⊢
  exact h3.imp fun h e1 => h (by rw [e1])
theorem es_keys {es : Array MapEntry} (hl : es.toList.map (fun e => (e.key, e.val)) = l.map fun p => (ek p.1, ev p.2)) : ∀ e ∈ es.toList, ∃ b, e.key = ek b := by
  intro e he
  have : (e.key, e.val) ∈ l.map fun p => (ek p.1, ev p.2) := by rw [← hl]; exact List.mem_map.2 ⟨e, he, rfl⟩
  obtain ⟨p, _, hp⟩ := List.mem_map.1 this
  exact ⟨p.1, (congrArg Prod.fst hp).symm⟩
theorem es_at {es : Array MapEntry} (hl : es.toList.map (fun e => (e.key, e.val)) = l.map fun p => (ek p.1, ev p.2)) {j : Nat} {e0 : MapEntry} (hj : es.toList[j]? = some e0) : ∃ p, l[j]? = some p ∧ e0.key = ek p.1 ∧ e0.val = ev p.2 := by
  have h1 : (es.toList.map (fun e => (e.key, e.val)))[j]? = some (e0.key, e0.val) := by rw [List.getElem?_map, hj]; rfl
  rw [hl, List.getElem?_map] at h1
  cases hp : l[j]? with
  | none => rw [hp] at h1; cases h1
  | some p =>
    rw [hp] at h1
    injection h1 with h1
    exact ⟨p, rfl, (congrArg Prod.fst h1).symm, (congrArg Prod.snd h1).symm⟩
variable [DecidableEq K]
/-- Finding a key. -/
theorem find_cases (E : KeyEnc P k ek) {es : Array MapEntry} (hl : es.toList.map (fun e => (e.key, e.val)) = l.map fun p => (ek p.1, ev p.2)) (w : World) (a : K) :
    ((Instr.findKey k (ek a) es.toList).run P w = .ok none w ∧ hasL l a = false ∧ ∀ e ∈ es.toList, e.key ≠ ek a) ∨
    ∃ j e0 v, (Instr.findKey k (ek a) es.toList).run P w = .ok (some (j, e0.val)) w ∧ es.toList[j]? = some e0 ∧ e0.key = ek a ∧ e0.val = ev v ∧ l[j]? = some (a, v) ∧ getL l a = some v ∧ ∀ i p, i < j → l[i]? = some p → p.1 ≠ a := by
  rcases E.find w a es.toList (es_keys hl) with ⟨h1, h2⟩ | ⟨j, e0, h1, h2, h3, h4⟩
  · refine .inl ⟨h1, ?_, h2⟩
    cases hh : hasL l a with
    | false => rfl
    | true =>
      obtain ⟨p, hp, hpa⟩ := List.mem_map.1 (hasL_iff.1 hh)
      have : (ek p.1, ev p.2) ∈ es.toList.map (fun e => (e.key, e.val)) := by rw [hl]; exact List.mem_map.2 ⟨p, hp, rfl⟩
      obtain ⟨x, hx, hxe⟩ := List.mem_map.1 this
      exact absurd ((congrArg Prod.fst hxe).trans (by rw [hpa])) (h2 x hx)
  · obtain ⟨p, hp, hk, hv⟩ := es_at hl h2
    obtain ⟨pa, pv⟩ := p
    have hpa : pa = a := E.inj (hk.symm.trans h3)
    subst hpa
    have hbefore : ∀ i p, i < j → l[i]? = some p → p.1 ≠ pa := by
      intro i p hi hip e1
      have hij : i < es.toList.length := by
        have h5 := (List.getElem?_eq_some_iff.1 h2).1
        omega
      obtain ⟨p', hp', hk', _⟩ := es_at hl (List.getElem?_eq_getElem hij)
      rw [hip] at hp'
      injection hp' with hp'
      subst hp'
      exact h4 i _ hi (List.getElem?_eq_getElem hij) (by rw [hk', e1])
    refine .inr ⟨j, e0, pv, h1, h2, h3, hv, hp, ?_, hbefore⟩
    have hf : l.find? (fun p => decide (p.1 = pa)) = some (pa, pv) := by
      rw [List.find?_eq_some_iff_getElem]
      obtain ⟨hj1, hj2⟩ := List.getElem?_eq_some_iff.1 hp
      refine ⟨by simp, j, hj1, hj2, fun i hi => ?_⟩
      simp
      exact hbefore i l[i] hi (List.getElem?_eq_getElem (by omega))
    simp [getL, hf]
/-- 'm[k]', 'v, ok := m[k]'. -/
theorem run_lookup_map (E : KeyEnc P k ek) (ht : P.underlying t = some (.map k e)) (h : Sep w (mapr ek ev b l :: rs)) {z : Value} (hz : (zeroValue e).run P w = .ok z w) (a : K) (c : Bool) :
    (Instr.lookup t (.map (some b)) (ek a) c).run P w = .ok (if c then .tuple #[((getL l a).map ev).getD z, .bool (hasL l a)] else ((getL l a).map ev).getD z) w := by
  obtain ⟨es, clock, hb, hs, hl⟩ := h.gmap
  rcases find_cases E hl w a with ⟨h1, h2, _⟩ | ⟨j, e0, v, h1, _, _, h4, _, h5, _⟩
  · simp [Instr.lookup, run_underlying ht, MapKept.run_getObj_map hb, E.check w _ a, h1, hz, Result.andThen, h2, getL_none_iff.2 h2]
  · have h6 : hasL l a = true := by rw [← getL_isSome, h5]; rfl
    simp [Instr.lookup, run_underlying ht, MapKept.run_getObj_map hb, E.check w _ a, h1, Result.andThen, h6, h5, h4]
theorem map_set_one {j : Nat} {a : K} {v v' : V} (hn : NodupL l) (hj : l[j]? = some (a, v')) : l.map (fun p => if p.1 = a then (a, v) else p) = l.set j (a, v) := by
  refine List.ext_getElem? fun i => ?_
  rw [List.getElem?_map]
  by_cases hij : i = j
  · subst hij
    have := (List.getElem?_eq_some_iff.1 hj).1
    rw [hj, List.getElem?_set_self this]
    simp
  · rw [List.getElem?_set_ne (Ne.symm hij)]
    cases hp : l[i]? with
    | none => rfl
    | some p =>
      have hne : p.1 ≠ a := by
        intro e1
        unfold NodupL at hn
        rw [List.Nodup, List.pairwise_map, List.pairwise_iff_getElem] at hn
        obtain ⟨hi1, hi2⟩ := List.getElem?_eq_some_iff.1 hp
        obtain ⟨hj1, hj2⟩ := List.getElem?_eq_some_iff.1 hj
        rcases Nat.lt_or_gt_of_ne hij with hlt | hlt
        · exact hn i j hi1 hj1 hlt (by rw [hi2, hj2, e1])
        · exact hn j i hj1 hi1 hlt (by rw [hi2, hj2, e1])
      simp [hne]
/-- 'm[k] = v'. -/
theorem run_mapUpdate_map (E : KeyEnc P k ek) (ht : P.underlying t = some (.map k e)) (h : Sep w (mapr ek ev b l :: rs)) (a : K) (v : V) :
    ∃ w', (Instr.mapUpdate t (.map (some b)) (ek a) (ev v)).run P w = .ok () w' ∧ Sep w' (mapr ek ev b (putL l a v) :: rs) := by
  have hn := h.map_nodup E
  obtain ⟨A, h1, h2⟩ := h.open_
  obtain ⟨hA, es, clock, hb, hs, hl⟩ := h1
  have key : ∀ es' clock', Stamped es' clock' → es'.toList.map (fun e => (e.key, e.val)) = (putL l a v).map (fun p => (ek p.1, ev p.2)) → Sep (setBlock w b (.map es' clock')) (mapr ek ev b (putL l a v) :: rs) := fun es' clock' hs' hl' =>
    h2 _ _ A ⟨hA, es', clock', ChangeMaps.heap_setBlock_same hb _, hs', hl'⟩ ⟨rfl, rfl, rfl, by simp [setBlock], fun x _ hx => ChangeMaps.heap_setBlock_other hb _ (fun e1 => hx ((hA x).2 e1))⟩ (fun _ => .inl)
  rcases find_cases E hl w a with ⟨h1, h2, h3⟩ | ⟨j, e0, v0, h1, h3, h4, h5, h6, h7, _⟩
  · refine ⟨_, ?_, key (es.push ⟨ek a, ev v, clock⟩) (clock + 1) (stamped_push hs h3) ?_⟩
    · simp [Instr.mapUpdate, run_underlying ht, MapKept.run_getObj_map hb, E.check w false a, h1, MapKept.run_setObj_map _ hb, Result.andThen, setBlock]
    · rw [Array.toList_push, List.map_append, hl]
      simp [putL, h2]
  · have hj : es[j]? = some e0 := by simpa using h3
    refine ⟨_, ?_, key (es.modify j (fun e' => { e' with key := ek a, val := ev v })) clock (stamped_modify hs _ _ (fun _ _ => rfl) (fun e' _ he' => ?_)) ?_⟩
    · simp [Instr.mapUpdate, run_underlying ht, MapKept.run_getObj_map hb, E.check w false a, h1, hj, h4, E.stays w a, MapKept.run_setObj_map _ hb, Result.andThen, setBlock]
    · rw [hj] at he'
      injection he' with he'
      subst he'
      exact h4.symm
    · have h8 : hasL l a = true := by rw [← getL_isSome, h7]; rfl
      rw [Array.toList_modify, modify_eq_set _ _ _ _ h3, List.map_set, hl]
      simp only [putL, h8, if_true]
      rw [map_set_one hn h6, List.map_set]
variable {ops : Array Oper} {rest : List Oper} {o : Oper} {a : Act} {Q : Exit → Act → World → Prop}
theorem wp_mapUpdate_map {K' : Act → World → Prop} (h : Sep w (mapr ek ev b l :: rs)) (E : KeyEnc P k ek) (ht : P.underlying t = some (.map k e)) (m x v : Operand) (hop : o.op = Op.mapUpdate t m x v)
    (hm : a.eval m = .map (some b)) (key : K) (val : V) (hx : a.eval x = ek key) (hv : a.eval v = ev val)
    (hK : ∀ w', Sep w' (mapr ek ev b (putL l key val) :: rs) → K' (a.put o.dst undef) w') : o.wp P a w K' Q := by
  obtain ⟨w', hrun, r1⟩ := run_mapUpdate_map E ht h key val
  unfold Oper.wp
  simp [execOp, hop, hm, hx, hv, hrun, Result.andThen]
  exact hK w' r1
theorem wpList_lookup_map (h : Sep w (mapr ek ev b l :: rs)) (E : KeyEnc P k ek) (ht : P.underlying t = some (.map k e)) (hg : o.guard = none) (m x : Operand) (c : Bool) (hop : o.op = Op.lookup t m x c)
    {z : Value} (hz : (zeroValue e).run P w = .ok z w) (hm : a.eval m = .map (some b)) (key : K) (hx : a.eval x = ek key)
    (hK : wpList P ops Q rest (a.put o.dst (if c then .tuple #[((getL l key).map ev).getD z, .bool (hasL l key)] else ((getL l key).map ev).getD z)) w) : wpList P ops Q (o :: rest) a w := by
  refine wpList_plain hg fun K' hK' => ?_
  unfold Oper.wp
  simp only [execOp, hop, hm, hx, run_lookup_map E ht h hz, Result.andThen_ok, Sem.run_bind, Sem.run_pure]
  exact hK' _ _ hK
theorem wpList_mapUpdate_map (h : Sep w (mapr ek ev b l :: rs)) (E : KeyEnc P k ek) (ht : P.underlying t = some (.map k e)) (hg : o.guard = none) (m x v : Operand) (hop : o.op = Op.mapUpdate t m x v)
    (hm : a.eval m = .map (some b)) (key : K) (val : V) (hx : a.eval x = ek key) (hv : a.eval v = ev val)
    (hK : ∀ w', Sep w' (mapr ek ev b (putL l key val) :: rs) → wpList P ops Q rest (a.put o.dst undef) w') : wpList P ops Q (o :: rest) a w := by
  refine wpList_plain hg fun K' hK' => ?_
  obtain ⟨w', hrun, r1⟩ := run_mapUpdate_map E ht h key val
  unfold Oper.wp
  simp [execOp, hop, hm, hx, hv, hrun, Result.andThen]
  exact hK' _ _ (hK w' r1)
end
end Go.Proofs.Ytcnkmhfcgkbhbaa
namespace Go.Proofs.Ytcnkmhfcgkbhbaa
set_option linter.unusedSimpArgs false
set_option linter.unusedVariables false
set_option linter.unnecessarySimpa false
open Go.RowKit

structure Rq where
  id : Int
  txn : Int
  mode : Int
  want : Int
  since : Int
  deriving DecidableEq, Inhabited
def Rq.val (r : Rq) : Value := .agg #[.int .i64 r.id, .int .i64 r.txn, .int .i64 r.mode, .int .i64 r.want, .int .i64 r.since]
def Rq.cells (r : Rq) : List Value := [.int .i64 r.id, .int .i64 r.txn, .int .i64 r.mode, .int .i64 r.want, .int .i64 r.since]
def qcells (l : List Rq) : List Value := l.flatMap Rq.cells
/-- The value v is a slice of requests that reads as l. -/
def RQ (w : World) (v : Value) (l : List Rq) : Prop :=
  ∃ a c, v = .slice a l.length c ∧ l.length ≤ c ∧ (a = none → c = 0) ∧ (0 < l.length → ∃ b off, a = some ⟨b, off, none⟩ ∧ b < w.heap.size ∧ ∀ j, j < l.length →
    w.cell? ⟨b, off + j * 5, none⟩ = some (.int .i64 (l.getD j default).id) ∧ w.cell? ⟨b, off + j * 5 + 1, none⟩ = some (.int .i64 (l.getD j default).txn) ∧ w.cell? ⟨b, off + j * 5 + 2, none⟩ = some (.int .i64 (l.getD j default).mode) ∧
    w.cell? ⟨b, off + j * 5 + 3, none⟩ = some (.int .i64 (l.getD j default).want) ∧ w.cell? ⟨b, off + j * 5 + 4, none⟩ = some (.int .i64 (l.getD j default).since))
theorem RQ.below {w w' : World} {v : Value} {l : List Rq} (h : RQ w v l) (hb : Below w.heap.size w w') : RQ w' v l := by
  obtain ⟨a, c, hv, hc, hna, hr⟩ := h
  refine ⟨a, c, hv, hc, hna, fun h0 => ?_⟩
  obtain ⟨b, off, ha, hlt, hz⟩ := hr h0
  have k : ∀ o, w'.cell? ⟨b, o, none⟩ = w.cell? ⟨b, o, none⟩ := fun o => hb.cell (p := ⟨b, o, none⟩) hlt
  exact ⟨b, off, ha, Nat.lt_of_lt_of_le hlt hb.size, fun j hj => by rw [k, k, k, k, k]; exact hz j hj⟩
theorem belT {w w1 w2 : World} (h : Below w.heap.size w w1) (h' : Below w1.heap.size w1 w2) : Below w.heap.size w w2 := h.trans (h'.mono h.size)

theorem belA {w w1 : World} (o : Obj) (h : Below (w.alloc o).heap.size (w.alloc o) w1) : Below w.heap.size w w1 := belT ((Below.refl _ _).alloc (Nat.le_refl _) o) h
/-- A boxed request behind calls that only make memory. -/
theorem cellsA {w w1 : World} {a0 a1 a2 a3 a4 : Value} {t : TypeId} (h : Below (w.alloc (.cells #[a0, a1, a2, a3, a4] t)).heap.size (w.alloc (.cells #[a0, a1, a2, a3, a4] t)) w1) (b0 b1 b2 b3 b4 : Value) (e : #[a0, a1, a2, a3, a4] = #[b0, b1, b2, b3, b4]) :
    w1.cell? ⟨w.heap.size, 0, none⟩ = some b0 ∧ w1.cell? ⟨w.heap.size, 1, none⟩ = some b1 ∧ w1.cell? ⟨w.heap.size, 2, none⟩ = some b2 ∧ w1.cell? ⟨w.heap.size, 3, none⟩ = some b3 ∧ w1.cell? ⟨w.heap.size, 4, none⟩ = some b4 := by
  rw [e] at h
  have hb := (Blk.new w t #[b0, b1, b2, b3, b4]).below' h
  exact ⟨hb.cell 0, hb.cell 1, hb.cell 2, hb.cell 3, hb.cell 4⟩
theorem holds_any (r : Rq) (w : World) : Calls Try.prog 62 #[r.val] w fun e w' => e = .returned (.bool (r.mode != 0)) ∧ Below w.heap.size w w' := by
  obtain ⟨id, txn, mode, want, since⟩ := r
  unfold Rq.val
  go_enter Try.func62, Try.ntmps62
  go_wp2
  go_ret
  exact ⟨rfl, (Below.refl _ _).alloc (Nat.le_refl _) _⟩
theorem waits_any (r : Rq) (w : World) : Calls Try.prog 48 #[r.val] w fun e w' => e = .returned (.bool (decide (0 < r.since))) ∧ Below w.heap.size w w' := by
  obtain ⟨id, txn, mode, want, since⟩ := r
  unfold Rq.val
  go_enter Try.func48, Try.ntmps48
  go_wp2
  go_ret
  exact ⟨rfl, (Below.refl _ _).alloc (Nat.le_refl _) _⟩
def upB (r : Rq) : Bool := r.mode != 0 && decide (0 < r.since)
theorem upgrades_any (r : Rq) (w : World) : Calls Try.prog 64 #[r.val] w fun e w' => e = .returned (.bool (upB r)) ∧ Below w.heap.size w w' := by
  have H1 := Lib.hid (fun w => holds_any r w)
  have H2 := Lib.hid (fun w => waits_any r w)
  obtain ⟨id, txn, mode, want, since⟩ := r
  unfold Rq.val at *
  simp only at H1 H2
  by_cases h : mode = 0
  · subst h
    go_enter Try.func64, Try.ntmps64
    go_wp2_with fail
    refine (H1.out _).mono ?_
    rintro e w1 ⟨rfl, b1⟩
    replace b1 := Lib.hid b1
    go_wp2_with fail
    go_ret
    exact ⟨rfl, belA _ b1.out⟩
  · have h0 : (mode != 0) = true := by simpa using h
    have E := Lib.hid (show upB ⟨id, txn, mode, want, since⟩ = decide (0 < since) by simp only [upB, h0, Bool.true_and])
    rw [h0] at H1
    clear h
    go_enter Try.func64, Try.ntmps64
    go_wp2_with fail
    refine (H1.out _).mono ?_
    rintro e w1 ⟨rfl, b1⟩
    have c := cellsA b1 _ _ _ _ _ rfl
    obtain ⟨c0, c1, c2, c3, c4⟩ := c
    replace b1 := Lib.hid b1
    go_wp2_with fail
    refine (H2.out _).mono ?_
    rintro e w2 ⟨rfl, b2⟩
    replace b1 := Lib.hid (belT (belA _ b1.out) b2)
    clear b2 c0 c1 c2 c3 c4
    go_wp2_with fail
    go_ret
    exact ⟨by rw [E.out]; rfl, b1.out⟩
/-- What is asked of a function value that is called with requests. -/
def PredQ (g : Nat) (lb : Array Value) (p : Rq → Bool) (w : World) : Prop :=
  ∀ (W : World) (r : Rq), Below w.heap.size w W → Calls Try.prog g (#[r.val] ++ lb) W fun e w' => e = .returned (.bool (p r)) ∧ Below W.heap.size W w'
/-- Where the first one is that meets p; -1. -/
def idxF {α : Type} (p : α → Bool) : List α → Nat → Int
  | [], _ => -1
  | x :: l, k => if p x then (k : Int) else idxF p l (k + 1)
theorem drop_at (l : List Rq) (k : Nat) (h : k < l.length) : l.drop k = l.getD k default :: l.drop (k + 1) := by
  rw [List.drop_eq_getElem_cons h]
  simp [List.getD, h]
set_option maxHeartbeats 1000000 in
theorem index_any (v : Value) (l : List Rq) (g : Nat) (lb : Array Value) (p : Rq → Bool) (w : World) (hv : RQ w v l) (hl : l.length ≤ 1000) (hp : PredQ g lb p w)
    (eg : ∀ args w, (callFunc g args).run Try.prog w = .ok (.enter g args) w) :
    Calls Try.prog 87 #[v, .func (.func g) #[] lb] w fun e w' => e = .returned (.int .i64 (idxF p l 0)) ∧ Below w.heap.size w w' := by
  obtain ⟨a, c, rfl, hc, _, hr⟩ := hv
  have HR := Lib.hid hr
  have HP := Lib.hid hp
  clear hr hp
  generalize hn : l.length = n at *
  replace hn := Lib.hid hn
  go_enter Try.func87, Try.ntmps87
  go_wp2
  go_loopw [8] (fun i wr => ∃ k : Nat, k ≤ n ∧ i = .int .i64 k ∧ Hid (idxF p l 0 = idxF p (l.drop k) k) ∧ Hid (Below w.heap.size w wr)) (fun i _ => n - (intOf i).toNat)
  case atStart => exact ⟨0, Nat.zero_le _, rfl, rfl, Below.refl _ _⟩
  case round =>
    obtain ⟨k, hk, rfl, he, hb⟩ := hrel
    by_cases hlt : k < n
    · obtain ⟨b, off, rfl, hbl, hz⟩ := HR.out (by omega)
      obtain ⟨z0, z1, z2, z3, z4⟩ := hz k hlt
      have kk : ∀ o, wr.cell? ⟨b, o, none⟩ = w.cell? ⟨b, o, none⟩ := fun o => hb.out.cell (p := ⟨b, o, none⟩) hbl
      rw [← kk] at z0 z1 z2 z3 z4
      have E := Lib.hid (drop_at l k (by rw [hn.out]; exact hlt))
      generalize l.getD k default = r at *
      have hq := Lib.hid (HP.out wr r hb.out)
      clear kk hz HR
      obtain ⟨id, txn, mode, want, since⟩ := r
      simp only [Rq.val] at hq z0 z1 z2 z3 z4
      go_wp2_with fail
      refine hq.out.mono ?_
      rintro e w1 ⟨rfl, b1⟩
      replace hb := Lib.hid (hb.out.trans (b1.mono hb.out.size))
      clear z0 z1 z2 z3 z4 b1 hq
      cases hpr : p ⟨id, txn, mode, want, since⟩ with
      | true =>
        have E2 := Lib.hid (show idxF p l 0 = (k : Int) by rw [he.out, E.out]; simp only [idxF, hpr, if_true])
        go_wp2_with fail
        go_ret
        exact ⟨by rw [E2.out]; rfl, hb.out⟩
      | false =>
        have E2 := Lib.hid (show idxF p l 0 = idxF p (l.drop (k + 1)) (k + 1) by rw [he.out, E.out]; simp only [idxF, hpr]; rfl)
        go_wp2_with fail
        go_roundw
        case rel => exact ⟨k + 1, by omega, by go_num, E2, hb⟩
        case measure => simp [intOf]; omega
    · have hk2 : k = n := by omega
      have E := Lib.hid (show idxF p l 0 = -1 by rw [he.out, List.drop_eq_nil_of_le (by rw [hn.out]; omega)]; rfl)
      clear he
      go_wp2_with fail
      go_ret
      exact ⟨by rw [E.out]; rfl, hb.out⟩
end Go.Proofs.Ytcnkmhfcgkbhbaa
namespace Go.Proofs.Ytcnkmhfcgkbhbaa
set_option linter.unusedSimpArgs false
set_option linter.unusedVariables false
set_option linter.unnecessarySimpa false
open Go.RowKit
theorem qcells_len (l : List Rq) : (qcells l).length = l.length * 5 := by
  induction l with
  | nil => rfl
  | cons r l ih => simp only [qcells, List.flatMap_cons, List.length_append, List.length_cons] at *; rw [ih, Rq.cells]; simp; omega
theorem qcells_at (l : List Rq) (j : Nat) (h : j < l.length) : ∀ f, f < 5 → (qcells l)[j * 5 + f]? = (Rq.cells (l.getD j default))[f]? := by
  induction l generalizing j with
  | nil => simp at h
  | cons r l ih =>
    intro f hf
    cases j with
    | zero => simp only [qcells, List.flatMap_cons]; rw [Nat.zero_mul, Nat.zero_add, List.getElem?_append_left (by simp [Rq.cells]; omega)]; rfl
    | succ j =>
      simp only [qcells, List.flatMap_cons]
      rw [List.getElem?_append_right (by simp [Rq.cells]; omega)]
      have := ih j (by simpa using h) f hf
      simp only [qcells] at this
      rw [show (j + 1) * 5 + f - r.cells.length = j * 5 + f by simp [Rq.cells]; omega, this]
      simp [List.getD]
theorem qcells_one (l : List Rq) : ∀ u ∈ qcells l, u.oneCell' = true := by
  intro u hu
  simp only [qcells, List.mem_flatMap] at hu
  obtain ⟨r, _, hu⟩ := hu
  simp only [Rq.cells, List.mem_cons, List.not_mem_nil, or_false] at hu
  rcases hu with rfl | rfl | rfl | rfl | rfl <;> rfl
theorem RQ.src {w : World} {v : Value} {l : List Rq} (h : RQ w v l) : SrcA w 5 v l.length (qcells l) := by
  obtain ⟨a, c, rfl, hc, hna, hr⟩ := h
  cases a with
  | none =>
    have h0 : l.length = 0 := by
      rcases Nat.eq_zero_or_pos l.length with h | h
      · exact h
      · obtain ⟨b, off, h, _⟩ := hr h; cases h
    have hl := List.eq_nil_of_length_eq_zero h0
    subst hl
    exact .inl ⟨by rw [hna rfl]; rfl, rfl, rfl⟩
  | some ad =>
    refine .inr ⟨ad, c, rfl, qcells_len l, fun j u hu => ?_⟩
    have hj : j < l.length * 5 := by
      rcases Nat.lt_or_ge j (l.length * 5) with h | h
      · exact h
      · rw [List.getElem?_eq_none (by rw [qcells_len]; exact h)] at hu; cases hu
    obtain ⟨b, off, hb, _, hz⟩ := hr (by omega)
    injection hb with hb
    subst hb
    obtain ⟨z0, z1, z2, z3, z4⟩ := hz (j / 5) (by omega)
    rw [Addr.add_lit]
    have hq := qcells_at l (j / 5) (by omega) (j % 5) (by omega)
    rw [show j / 5 * 5 + j % 5 = j by omega, hu] at hq
    have e : off + j = off + j / 5 * 5 + j % 5 := by omega
    rw [e]
    have h5 : j % 5 = 0 ∨ j % 5 = 1 ∨ j % 5 = 2 ∨ j % 5 = 3 ∨ j % 5 = 4 := by omega
    rcases h5 with h | h | h | h | h <;> rw [h] at hq ⊢ <;> simp only [Rq.cells, List.getElem?_cons_zero, List.getElem?_cons_succ] at hq <;> rw [hq] <;> assumption
theorem RQ.of_own {w : World} {base : Nat} {v : Value} {l : List Rq} (h : w.ownsRow base 39 5 v l.length (qcells l)) : RQ w v l := by
  rcases h.2 with ⟨hv, h0⟩ | ⟨g, cap, cur, rfl, _, hg, hnc, _⟩
  · subst hv
    have hl := List.eq_nil_of_length_eq_zero h0
    subst hl
    exact ⟨none, 0, rfl, Nat.le_refl _, fun _ => rfl, fun h => absurd h (by simp)⟩
  · refine ⟨some ⟨g, 0, none⟩, cap, rfl, hnc, (fun h => by cases h), fun _ => ⟨g, 0, rfl, (Array.getElem?_eq_some_iff.1 hg).1, fun j hj => ?_⟩⟩
    have key : ∀ f, f < 5 → ∀ u, (Rq.cells (l.getD j default))[f]? = some u → w.cell? ⟨g, 0 + j * 5 + f, none⟩ = some u := by
      intro f hf u hu
      have := h.cells (g := g) rfl (j * 5 + f) u (by rw [qcells_at l j hj f hf]; exact hu)
      rw [Addr.add_lit] at this
      rw [show 0 + j * 5 + f = 0 + (j * 5 + f) by omega]
      exact this
    exact ⟨key 0 (by omega) _ rfl, key 1 (by omega) _ rfl, key 2 (by omega) _ rfl, key 3 (by omega) _ rfl, key 4 (by omega) _ rfl⟩
theorem info_req : (Try.prog.info? 39).map (fun i => (i.zero, i.size, i.bytes)) = some (some (.agg #[.int .i64 0, .int .i64 0, .int .i64 0, .int .i64 0, .int .i64 0]), 5, 40) := by kernel_rfl

/-- A copy of requests, in memory of its own. -/
def vq (v : Value) (l : List Rq) : Res := vec 39 5 v l.length (qcells l)
theorem Sep.vq_rq {w : World} {v : Value} {l : List Rq} {rs : List Res} (h : Sep w (vq v l :: rs)) : RQ w v l := RQ.of_own h.gvec
def hval (t r : Int) (q : Value) (n : Int) : Value := .agg #[.int .i64 t, .int .i64 r, q, .int .i64 n]
end Go.Proofs.Ytcnkmhfcgkbhbaa
namespace Go.Proofs.Ytcnkmhfcgkbhbaa
set_option linter.unusedSimpArgs false
set_option linter.unusedVariables false
set_option linter.unnecessarySimpa false
open Go.RowKit
theorem wpList_store_new {P : Program} {ops : Array Oper} {rest : List Oper} {o : Oper} {a : Act} {w0 : World} {Q : Exit → Act → World → Prop} (hgd : o.guard = none) (ty : TypeId) (x y : Operand) (ho : o.op = .store ty x y)
    (c c' : Array Value) (hx : a.eval x = .pointer (some ⟨w0.heap.size, 0, none⟩)) (hy : a.eval y = .agg c')
    (hi : (P.info? ty).map (·.size) = some c'.size) (hs : c.size = c'.size) (h1 : c'.all (·.oneCell') = true)
    (h : wpList P ops Q rest (a.put o.dst undef) (w0.alloc (.cells c' ty))) : wpList P ops Q (o :: rest) a (w0.alloc (.cells c ty)) :=
  wpList_plain hgd fun K hK => by
    have hr := run_storeAt_new (P := P) w0 ty c c' hi hs h1
    unfold Oper.wp execOp
    simp only [ho, hx, hy, Sem.run_bind, Sem.run_pure, Result.andThen_ok, hr]
    exact hK _ _ h
def covArr : Array Value := #[.int .i64 1, .int .i64 0, .int .i64 0, .int .i64 0, .int .i64 0, .int .i64 0, .int .i64 0,
  .int .i64 1, .int .i64 1, .int .i64 0, .int .i64 0, .int .i64 0, .int .i64 0, .int .i64 0,
  .int .i64 1, .int .i64 1, .int .i64 1, .int .i64 0, .int .i64 0, .int .i64 0, .int .i64 0,
  .int .i64 1, .int .i64 1, .int .i64 0, .int .i64 1, .int .i64 0, .int .i64 0, .int .i64 0,
  .int .i64 1, .int .i64 1, .int .i64 1, .int .i64 1, .int .i64 1, .int .i64 0, .int .i64 0,
  .int .i64 1, .int .i64 1, .int .i64 0, .int .i64 1, .int .i64 0, .int .i64 1, .int .i64 0,
  .int .i64 1, .int .i64 1, .int .i64 1, .int .i64 1, .int .i64 1, .int .i64 1, .int .i64 1]
def comArr : Array Value := #[.int .i64 1, .int .i64 1, .int .i64 1, .int .i64 1, .int .i64 1, .int .i64 1, .int .i64 1,
  .int .i64 1, .int .i64 1, .int .i64 1, .int .i64 1, .int .i64 1, .int .i64 1, .int .i64 0,
  .int .i64 1, .int .i64 1, .int .i64 1, .int .i64 0, .int .i64 0, .int .i64 0, .int .i64 0,
  .int .i64 1, .int .i64 1, .int .i64 0, .int .i64 1, .int .i64 0, .int .i64 1, .int .i64 0,
  .int .i64 1, .int .i64 1, .int .i64 0, .int .i64 0, .int .i64 0, .int .i64 0, .int .i64 0,
  .int .i64 1, .int .i64 1, .int .i64 0, .int .i64 1, .int .i64 0, .int .i64 0, .int .i64 0,
  .int .i64 1, .int .i64 0, .int .i64 0, .int .i64 0, .int .i64 0, .int .i64 0, .int .i64 0]
theorem size43 : (Try.prog.info? 115).map (·.size) = some 49 := by kernel_rfl
theorem com_one : comArr.all (·.oneCell') = true := by simp [comArr, Value.oneCell']
theorem com_size : 49 = comArr.size := by simp [comArr]
set_option maxRecDepth 100000 in
theorem compat_t (w : World) : Calls Try.prog 89 #[] w fun e w' => e = .returned (.agg comArr) ∧ w' = w.alloc (.cells comArr 115) := by
  go_enter Try.func89, Try.ntmps89
  go_wp2_with (refine wpList_store_new rfl 115 _ _ rfl _ comArr rfl rfl (by rw [← com_size]; exact size43) (by rw [← com_size]; simp) com_one ?_)
  refine bodyPost_ret (results_cell_row rfl _ _ w.heap.size 115 comArr (0, 0) _ rfl (heap_alloc_new w _) Try.underlying115 rfl (by rw [← com_size]; exact size43)) rfl ⟨rfl, rfl⟩

def knownB (m : Int) : Bool := decide (0 ≤ m ∧ m ≤ 6)
theorem known_any (m : Int) (w : World) : Calls Try.prog 107 #[.int .i64 m] w fun e w' => e = .returned (.bool (knownB m)) ∧ w = w' := by
  unfold knownB
  by_cases h1 : 0 ≤ m
  · by_cases h2 : m ≤ 6
    · rw [show decide (0 ≤ m ∧ m ≤ 6) = true by simp [h1, h2]]
      go_enter Try.func107, Try.ntmps107
      go_wp2
      go_ret
      exact ⟨rfl, rfl⟩
    · rw [show decide (0 ≤ m ∧ m ≤ 6) = false by simp [h2]]
      go_enter Try.func107, Try.ntmps107
      go_wp2
      go_ret
      exact ⟨rfl, rfl⟩
  · rw [show decide (0 ≤ m ∧ m ≤ 6) = false by simp [h1]]
    go_enter Try.func107, Try.ntmps107
    go_wp2
    go_ret
    exact ⟨rfl, rfl⟩
theorem known_nat {m : Int} (h : knownB m = true) : ∃ k : Nat, m = k ∧ k < 7 := by
  simp [knownB] at h
  obtain ⟨k, rfl⟩ := Int.eq_ofNat_of_zero_le h.1
  exact ⟨k, rfl, by omega⟩
def cellB (arr : Array Value) (i : Nat) : Bool := match arr[i]? with | some (.int _ n) => n == 1 | _ => false
def tabB (arr : Array Value) (a b : Int) : Bool := knownB a && knownB b && cellB arr (a.toNat * 7 + b.toNat)

theorem is_any (cs : Array Value) (hcs : ∀ i, i < 49 → ∃ n, cs[i]? = some (.int .i64 n)) (a b : Int) (w : World) :
    Calls Try.prog 90 #[.agg cs, .int .i64 a, .int .i64 b] w fun e w' => e = .returned (.bool (tabB cs a b)) ∧ w' = w.alloc (.cells cs 115) := by
  have Ka := Lib.hid (fun W => known_any a W)
  have Kb := Lib.hid (fun W => known_any b W)
  cases ha : knownB a with
  | false =>
    rw [show tabB cs a b = false by simp [tabB, ha]]
    clear hcs
    go_enter Try.func90, Try.ntmps90
    go_wp2_with (go_at_call 107; refine (Ka.out _).mono ?_; rintro e w' ⟨rfl, rfl⟩)
    go_ret
    exact ⟨rfl, rfl⟩
  | true =>
    cases hb : knownB b with
    | false =>
      rw [show tabB cs a b = false by simp [tabB, hb]]
      clear hcs
      go_enter Try.func90, Try.ntmps90
      go_wp2_with fail
      refine (Ka.out _).mono ?_
      rintro e w' ⟨rfl, rfl⟩
      go_wp2_with fail
      refine (Kb.out _).mono ?_
      rintro e w' ⟨rfl, rfl⟩
      go_wp2_with fail
      go_ret
      exact ⟨rfl, rfl⟩
    | true =>
      obtain ⟨i, rfl, hi⟩ := known_nat ha
      obtain ⟨j, rfl, hj⟩ := known_nat hb
      obtain ⟨n, hn⟩ := hcs (i * 7 + j) (by omega)
      have e := Lib.hid (show tabB cs i j = (n == 1) by simp [tabB, ha, hb, cellB, hn])
      clear hcs
      by_cases h1 : n = 1
      · have h1' : (n == 1) = true := by simpa using h1
        clear h1
        go_enter Try.func90, Try.ntmps90
        go_wp2_with fail
        refine (Ka.out _).mono ?_
        rintro e w' ⟨rfl, rfl⟩
        go_wp2_with fail
        refine (Kb.out _).mono ?_
        rintro e w' ⟨rfl, rfl⟩
        go_wp2_with fail
        go_ret
        exact ⟨by rw [e.out, h1']; rfl, rfl⟩
      · have h1' : (n == 1) = false := by simpa using h1
        clear h1
        go_enter Try.func90, Try.ntmps90
        go_wp2_with fail
        refine (Ka.out _).mono ?_
        rintro e w' ⟨rfl, rfl⟩
        go_wp2_with fail
        refine (Kb.out _).mono ?_
        rintro e w' ⟨rfl, rfl⟩
        go_wp2_with fail
        go_ret
        exact ⟨by rw [e.out, h1']; rfl, rfl⟩
theorem comArr_ints : ∀ i, i < 49 → ∃ n, comArr[i]? = some (.int .i64 n) := by
  intro i hi
  have : ∀ i : Fin 49, (match comArr[i.val]? with | some (.int .i64 _) => true | _ => false) = true := by decide
  have h := this ⟨i, hi⟩
  dsimp only at h
  split at h
  · rename_i n hn; exact ⟨n, hn⟩
  · cases h
theorem below_alloc (w : World) (o : Obj) : Below w.heap.size w (w.alloc o) := (Below.refl _ _).alloc (Nat.le_refl _) _
theorem below_alloc2 (w : World) (o o' : Obj) : Below w.heap.size w ((w.alloc o).alloc o') := (below_alloc w o).alloc (by simp) _
def covB (a b : Int) : Bool := tabB covArr a b
def comB (a b : Int) : Bool := tabB comArr a b
theorem compat_any (a b : Int) (w : World) : Calls Try.prog 63 #[.int .i64 a, .int .i64 b] w fun e w' => e = .returned (.bool (comB a b)) ∧ Below w.heap.size w w' := by
  have HC := Lib.hid (compat_t w)
  have HI := Lib.hid (fun W => is_any comArr comArr_ints a b W)
  have hb := Lib.hid (below_alloc2 w (.cells comArr 115) (.cells comArr 115))
  go_enter Try.func63, Try.ntmps63
  go_wp2_with fail
  refine HC.out.mono ?_
  rintro e w' ⟨rfl, rfl⟩
  go_wp2_with fail
  refine (HI.out _).mono ?_
  rintro e w' ⟨rfl, rfl⟩
  go_wp2_with fail
  go_ret
  exact ⟨rfl, hb.out⟩
end Go.Proofs.Ytcnkmhfcgkbhbaa
namespace Go.Proofs.Ytcnkmhfcgkbhbaa
set_option linter.unusedSimpArgs false
set_option linter.unusedVariables false
set_option linter.unnecessarySimpa false
open Go.RowKit
theorem reg_skip {P : Program} {md : Region.Mode} {ops : Array Oper} {Q : Exit → Act → World → Prop} (i : Nat) {oi : Oper} {fuel : Nat} {listed : Array Bool} {a : Act} {w : World} (hi : ops[i]? = some oi)
    (hs : Region.noSelect ops = true) (hf : Region.free md ops listed i = true) (hr : (Region.ready md ops listed).contains i = true)
    (hQ : ∀ c t t' d w, Q (.panic c) ⟨t, d⟩ w → Q (.panic c) ⟨t', d⟩ w) (hw : Region.wanted oi (yielded ops a.tmps) = false)
    (h : wpAny P md ops Q fuel (listed.setIfInBounds i true) (a.put oi.dst undef) w) : wpAny P md ops Q (fuel + 1) listed a w :=
  wpAny_take hi hs hf hr (fun c a w h => by obtain ⟨t, d⟩ := a; cases hd : oi.dst with
    | none => rw [hd] at h; exact h
    | some k => rw [hd] at h; exact hQ c _ t d w h) (.inr ⟨hw, rfl⟩) h
theorem reg_take {P : Program} {md : Region.Mode} {ops : Array Oper} {Q : Exit → Act → World → Prop} (i : Nat) (v : Value) {oi : Oper} {fuel : Nat} {listed : Array Bool} {a : Act} {w : World} (hi : ops[i]? = some oi)
    (hs : Region.noSelect ops = true) (hf : Region.free md ops listed i = true) (hr : (Region.ready md ops listed).contains i = true)
    (hQ : ∀ c t t' d w, Q (.panic c) ⟨t, d⟩ w → Q (.panic c) ⟨t', d⟩ w) (hw : Region.wanted oi (yielded ops a.tmps) = true)
    (hy : ∀ w, (execOp a.eval oi).run P w = .ok (.value v) w)
    (h : wpAny P md ops Q fuel (listed.setIfInBounds i true) (a.put oi.dst v) w) : wpAny P md ops Q (fuel + 1) listed a w :=
  wpAny_take hi hs hf hr (fun c a w h => by obtain ⟨t, d⟩ := a; cases hd : oi.dst with
    | none => rw [hd] at h; exact h
    | some k => rw [hd] at h; exact hQ c _ t d w h) (.inl ⟨hw, hy⟩) h
end Go.Proofs.Ytcnkmhfcgkbhbaa
namespace Go.Proofs.Ytcnkmhfcgkbhbaa
set_option linter.unusedSimpArgs false
set_option linter.unusedVariables false
set_option linter.unnecessarySimpa false
open Go.RowKit

theorem place1 (id0 : Int) (B : Nat) (w : World) (hB : B < w.heap.size) (hc : w.cell? ⟨B, 0, none⟩ = some (.int .i64 id0)) : PredQ 88 #[.pointer (some ⟨B, 0, none⟩)] (fun r => r.id == id0) w := fun W r hb => by
  have c := (hb.cell (p := ⟨B, 0, none⟩) hB).trans hc
  have hs := hb.size
  have hl := Nat.lt_of_lt_of_le hB hs
  obtain ⟨id, txn, mode, want, since⟩ := r
  show Calls Try.prog 88 #[.agg #[.int .i64 id, .int .i64 txn, .int .i64 mode, .int .i64 want, .int .i64 since], .pointer (some ⟨B, 0, none⟩)] W _
  clear hb hc
  go_enter Try.func88, Try.ntmps88
  go_wp2
  go_ret
  exact ⟨rfl, (Below.refl _ _).alloc (Nat.le_refl _) _⟩
def fitsP (r o : Rq) : Bool := o.id != r.id && (o.mode != 0 && !comB o.mode r.want)
theorem eg_place : ∀ args w, (callFunc 88 args).run Try.prog w = .ok (.enter 88 args) w := enters_of Try.func88 (by kernel_rfl) rfl
theorem two_boxes (w : World) (b0 b1 : Array Value) (t0 t1 : TypeId) : Below w.heap.size w ((w.alloc (.cells b0 t0)).alloc (.cells b1 t1)) := ((Below.refl _ _).alloc (Nat.le_refl _) _).alloc (by simp) _
theorem snd_box (w : World) (b0 b1 : Array Value) (t0 t1 : TypeId) (i : Nat) : ((w.alloc (.cells b0 t0)).alloc (.cells b1 t1)).cell? ⟨w.heap.size + 1, i, none⟩ = b1[i]? := by
  have := (Blk.new (w.alloc (.cells b0 t0)) t1 b1).cell i
  rw [World.size_alloc] at this
  exact this
theorem place_any (t r n : Int) (v : Value) (l : List Rq) (id : Int) (w : World) (hv : RQ w v l) (hl : l.length ≤ 1000) :
    Calls Try.prog 61 #[hval t r v n, .int .i64 id] w fun e w' => e = .returned (.int .i64 (idxF (fun q => q.id == id) l 0)) ∧ Below w.heap.size w w' := by
  have H := Lib.hid (fun b0 => index_any v l 88 #[.pointer (some ⟨w.heap.size + 1, 0, none⟩)] (fun q => q.id == id) ((w.alloc (.cells b0 90)).alloc (.cells #[.int .i64 id] 3)) (hv.below (two_boxes _ _ _ _ _)) hl
    (place1 id (w.heap.size + 1) _ (by simp) (snd_box _ _ _ _ _ 0)) eg_place)
  have b0 := Lib.hid (fun c0 c1 => two_boxes w c0 c1 90 3)
  obtain ⟨a, c, rfl, _⟩ := hv
  generalize idxF (fun q => q.id == id) l 0 = x at *
  have eg := eg_place
  unfold hval
  go_enter Try.func61, Try.ntmps61
  go_wp2_with fail
  refine (H.out _).mono ?_
  rintro e w1 ⟨rfl, b1⟩
  have fin := Lib.hid (belT (b0.out _ _) b1)
  clear b1
  go_wp2_with fail
  go_ret
  exact ⟨rfl, fin.out⟩

/-- Which one of the first k upgrades first. -/
def bestK (l : List Rq) : Nat → Int
  | 0 => -1
  | k+1 => if upB (l.getD k default) && (decide (bestK l k < 0) || decide ((l.getD k default).since < (l.getD (bestK l k).toNat default).since)) then k else bestK l k
theorem bestK_bd (l : List Rq) : ∀ k, -1 ≤ bestK l k ∧ bestK l k < k
  | 0 => by simp [bestK]
  | k+1 => by
    have := bestK_bd l k
    unfold bestK
    split <;> omega
end Go.Proofs.Ytcnkmhfcgkbhbaa
namespace Go.Proofs.Ytcnkmhfcgkbhbaa
set_option linter.unusedSimpArgs false
set_option linter.unusedVariables false
set_option linter.unnecessarySimpa false
open Go.RowKit
theorem idxF_bd {α : Type} [Inhabited α] (p : α → Bool) : ∀ (l : List α) (k : Nat), idxF p l k = -1 ∨ (∃ j, idxF p l k = ((k + j : Nat) : Int) ∧ j < l.length ∧ p (l.getD j default) = true)
  | [], k => .inl rfl
  | x :: l, k => by
    unfold idxF
    cases h : p x with
    | true => exact .inr ⟨0, by simp, by simp, by simpa [List.getD] using h⟩
    | false =>
      rcases idxF_bd p l (k + 1) with h' | ⟨j, h1, h2, h3⟩
      · exact .inl (by simpa using h')
      · refine .inr ⟨j + 1, by simp [h1]; omega, by simpa using h2, by simpa [List.getD] using h3⟩
end Go.Proofs.Ytcnkmhfcgkbhbaa
