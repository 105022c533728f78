/-
  The plain law of histories: what a walker's two maps say of its spans. No program in sight. No condition.
-/
import Derived.Test.YtechagciefhpbaaDoorHBeg
namespace Go.Proofs.YtechagciefhpbaaDoor
set_option linter.unusedSimpArgs false
set_option linter.unusedVariables false
set_option linter.unnecessarySimpa false

def opens (s : Sp) : Bool := decide (s.to < 0)
/-- The error of an event, behind spans. -/
def nextE (S : List Sp) (e : Ev) : Int :=
  if shapeB e = false then 2 else if e.invoke then (if S.any (fun s => s.call == e.call) then 4 else if S.any (fun s => s.thread == e.thread && opens s) then 7 else 0)
  else if S.any (fun s => s.call == e.call && (opens s && s.thread == e.thread)) then 0 else 5
def newSp (at_ : Int) (e : Ev) : Sp := ⟨e.call, e.thread, at_, -1, e.act⟩
def closeSp (at_ : Int) (e : Ev) (s : Sp) : Sp := if s.call = e.call then ⟨s.call, s.thread, s.from_, at_, ⟨s.act.kind, s.act.txn, s.act.t, s.act.r, s.act.mode, e.act.code⟩⟩ else s
def stepS (S : List Sp) (at_ : Int) (e : Ev) : List Sp := if e.invoke then S ++ [newSp at_ e] else S.map (closeSp at_ e)
def walkS : List Ev → Nat → List Sp → List Sp × Int × Int
  | [], _, S => (S, 0, 0)
  | e :: l, k, S => if nextE S e = 0 then walkS l (k + 1) (stepS S k e) else (S, k, nextE S e)

/-- What the walker's maps say of its spans. -/
structure WInv (S : List Sp) (C : List (Int × (Int × Bool))) (B : List (Int × Unit)) : Prop where
  calls : ∀ c pl op, getL C c = some (pl, op) ↔ ∃ (q : Nat) (s : Sp), pl = (q : Int) ∧ S[q]? = some s ∧ s.call = c ∧ op = opens s
  busy : ∀ t, hasL B t = true ↔ ∃ s ∈ S, s.thread = t ∧ opens s = true
  uniq : (S.map (·.call)).Nodup
  apart : S.Pairwise (fun s s' => s.thread = s'.thread → ¬ (opens s = true ∧ opens s' = true))
theorem WInv.nil : WInv [] [] [] := ⟨fun c pl op => ⟨fun h => by simp [getL] at h, fun ⟨q, s, _, h, _⟩ => by simp at h⟩, fun t => ⟨fun h => by simp [hasL] at h, fun ⟨s, h, _⟩ => by simp at h⟩, by simp, List.Pairwise.nil⟩
theorem stepS_len (S : List Sp) (k : Int) (e : Ev) : (stepS S k e).length ≤ S.length + 1 := by
  unfold stepS
  split <;> simp
section
variable {S : List Sp} {C : List (Int × (Int × Bool))} {B : List (Int × Unit)} {e : Ev}
theorem WInv.none_iff (h : WInv S C B) {c : Int} : getL C c = none ↔ S.any (fun s => s.call == c) = false := by
  constructor
  · intro hn
    cases ha : S.any (fun s => s.call == c) with
    | false => rfl
    | true =>
      obtain ⟨s, hs, hc⟩ := List.any_eq_true.1 ha
      obtain ⟨q, hq⟩ := List.mem_iff_getElem?.1 hs
      have := (h.calls c q (opens s)).2 ⟨q, s, rfl, hq, by simpa using hc, rfl⟩
      rw [hn] at this
      cases this
  · intro ha
    cases hn : getL C c with
    | none => rfl
    | some x =>
      obtain ⟨pl, op⟩ := x
      obtain ⟨q, s, _, hq, hc, _⟩ := (h.calls c pl op).1 hn
      rw [List.any_eq_false] at ha
      exact absurd (by simpa using hc) (ha s (List.mem_of_getElem? hq))
theorem WInv.busy_iff (h : WInv S C B) {t : Int} : hasL B t = S.any (fun s => s.thread == t && opens s) := by
  rw [Bool.eq_iff_iff, h.busy t, List.any_eq_true]
  simp
/-- The ways of a beginning. -/
theorem WInv.begin_ways (h : WInv S C B) (hs : shapeB e = true) (hi : e.invoke = true) :
    (∃ x, getL C e.call = some x ∧ nextE S e = 4) ∨ (getL C e.call = none ∧ getL B e.thread = some () ∧ nextE S e = 7) ∨ (getL C e.call = none ∧ getL B e.thread = none ∧ nextE S e = 0) := by
  unfold nextE
  rw [if_neg (by rw [hs]; simp), if_pos hi]
  cases hc : getL C e.call with
  | some x =>
    refine .inl ⟨x, rfl, ?_⟩
    cases ha : S.any (fun s => s.call == e.call) with
    | true => rw [if_pos rfl]
    | false => rw [h.none_iff.2 ha] at hc; cases hc
  | none =>
    have ha := h.none_iff.1 hc
    rw [ha]
    simp only [Bool.false_eq_true, if_false, true_and]
    rw [← h.busy_iff, ← getL_isSome]
    cases getL B e.thread with
    | none => exact .inr (.inr ⟨rfl, by simp⟩)
    | some u => exact .inr (.inl ⟨rfl, by simp⟩)
theorem any_call {q : Nat} {s : Sp} (h : WInv S C B) (hq : S[q]? = some s) (f : Sp → Bool) : S.any (fun x => x.call == s.call && f x) = f s := by
  rw [Bool.eq_iff_iff, List.any_eq_true]
  constructor
  · rintro ⟨x, hx, hc⟩
    simp only [Bool.and_eq_true, beq_iff_eq] at hc
    obtain ⟨j, hj⟩ := List.mem_iff_getElem?.1 hx
    have hu := h.uniq
    rw [List.Nodup, List.pairwise_map, List.pairwise_iff_getElem] at hu
    obtain ⟨j1, j2⟩ := List.getElem?_eq_some_iff.1 hj
    obtain ⟨q1, q2⟩ := List.getElem?_eq_some_iff.1 hq
    have : j = q := by
      rcases Nat.lt_trichotomy j q with k | k | k
      · exact absurd (by rw [j2, q2]; exact hc.1) (hu j q j1 q1 k)
      · exact k
      · exact absurd (by rw [j2, q2]; exact hc.1.symm) (hu q j q1 j1 k)
    subst this
    rw [hq] at hj
    injection hj with hj
    subst hj
    exact hc.2
  · intro hf
    exact ⟨s, List.mem_of_getElem? hq, by simp [hf]⟩
/-- The ways of an end. -/
theorem WInv.end_ways (h : WInv S C B) (hs : shapeB e = true) (hi : e.invoke = false) :
    (getL C e.call = none ∧ nextE S e = 5) ∨ (∃ pl, getL C e.call = some (pl, false) ∧ nextE S e = 5) ∨
    ∃ (q : Nat) (s : Sp), getL C e.call = some ((q : Int), true) ∧ S[q]? = some s ∧ s.call = e.call ∧ opens s = true ∧ ((s.thread ≠ e.thread ∧ nextE S e = 5) ∨ (s.thread = e.thread ∧ nextE S e = 0)) := by
  have hn : nextE S e = if S.any (fun s => s.call == e.call && (opens s && s.thread == e.thread)) then 0 else 5 := by
    unfold nextE
    rw [if_neg (by rw [hs]; simp), if_neg (by rw [hi]; simp)]
  rw [hn]
  cases hc : getL C e.call with
  | none =>
    refine .inl ⟨rfl, ?_⟩
    have ha := h.none_iff.1 hc
    rw [if_neg]
    intro hh
    obtain ⟨x, hx, hh⟩ := List.any_eq_true.1 hh
    rw [List.any_eq_false] at ha
    simp only [Bool.and_eq_true] at hh
    exact ha x hx hh.1
  | some x =>
    obtain ⟨pl, op⟩ := x
    obtain ⟨q, s, rfl, hq, hsc, rfl⟩ := (h.calls _ _ _).1 hc
    have ha := any_call h hq (fun x => opens x && x.thread == e.thread)
    rw [hsc] at ha
    rw [ha]
    cases ho : opens s with
    | false => exact .inr (.inl ⟨_, rfl, by simp⟩)
    | true =>
      refine .inr (.inr ⟨q, s, rfl, hq, hsc, ho, ?_⟩)
      by_cases ht : s.thread = e.thread
      · exact .inr ⟨ht, by simp [ht]⟩
      · exact .inl ⟨ht, by simp [ht]⟩
theorem WInv.begin (h : WInv S C B) (hi : e.invoke = true) (hc : getL C e.call = none) (hb : getL B e.thread = none) (k : Nat) :
    WInv (stepS S k e) (putL C e.call ((S.length : Int), true)) (putL B e.thread ()) := by
  have hst : stepS S k e = S ++ [newSp k e] := by unfold stepS; rw [if_pos hi]
  have hno := h.none_iff.1 hc
  rw [List.any_eq_false] at hno
  have hnb : S.any (fun s => s.thread == e.thread && opens s) = false := by
    rw [← h.busy_iff, ← getL_isSome, hb]
    rfl
  rw [List.any_eq_false] at hnb
  have hon : opens (newSp k e) = true := by simp [opens, newSp]
  rw [hst]
  refine ⟨fun c pl op => ?_, fun t => ?_, ?_, ?_⟩
  · rw [getL_putL]
    by_cases hce : c = e.call
    · subst hce
      rw [if_pos rfl]
      constructor
      · intro hh
        injection hh with hh
        injection hh with h1 h2
        exact ⟨S.length, newSp k e, h1.symm, by simp, rfl, by rw [hon]; exact h2.symm⟩
      · rintro ⟨q, s, rfl, hq, hsc, rfl⟩
        rcases Nat.lt_or_ge q S.length with h1 | h1
        · rw [List.getElem?_append_left h1] at hq
          exact absurd (by simpa using hsc) (hno s (List.mem_of_getElem? hq))
        · rw [List.getElem?_append_right h1] at hq
          have h2 : q - S.length = 0 := by
            have := (List.getElem?_eq_some_iff.1 hq).1
            simp at this
            omega
          rw [h2] at hq
          simp at hq
          subst hq
          rw [hon, show q = S.length by omega]
    · rw [if_neg hce, h.calls]
      constructor
      · rintro ⟨q, s, rfl, hq, hsc, rfl⟩
        exact ⟨q, s, rfl, by rw [List.getElem?_append_left (List.getElem?_eq_some_iff.1 hq).1]; exact hq, hsc, rfl⟩
      · rintro ⟨q, s, rfl, hq, hsc, rfl⟩
        rcases Nat.lt_or_ge q S.length with h1 | h1
        · rw [List.getElem?_append_left h1] at hq
          exact ⟨q, s, rfl, hq, hsc, rfl⟩
        · rw [List.getElem?_append_right h1] at hq
          have := List.mem_of_getElem? hq
          simp at this
          subst this
          exact absurd hsc (fun hh => hce hh.symm)
  · rw [hasL_putL, Bool.or_eq_true, h.busy]
    simp only [decide_eq_true_eq, List.mem_append, List.mem_singleton]
    constructor
    · rintro (rfl | ⟨s, hs, h1, h2⟩)
      · exact ⟨newSp k e, .inr rfl, rfl, hon⟩
      · exact ⟨s, .inl hs, h1, h2⟩
    · rintro ⟨s, hs | rfl, h1, h2⟩
      · exact .inr ⟨s, hs, h1, h2⟩
      · exact .inl h1.symm
  · rw [List.map_append, List.nodup_append]
    refine ⟨h.uniq, by simp, fun a ha b hb hab => ?_⟩
    simp at hb
    obtain ⟨s, hs, rfl⟩ := List.mem_map.1 ha
    subst hb
    exact hno s hs (by simpa [newSp] using hab)
  · rw [List.pairwise_append]
    refine ⟨h.apart, by simp, fun a ha b hb => ?_⟩
    simp at hb
    subst hb
    intro ht ⟨h1, _⟩
    exact hnb a ha (by simp [h1, ht, newSp])
theorem closeSp_call (k : Int) (s : Sp) : (closeSp k e s).call = s.call := by unfold closeSp; split <;> rfl
theorem closeSp_thread (k : Int) (s : Sp) : (closeSp k e s).thread = s.thread := by unfold closeSp; split <;> rfl
theorem closeSp_opens (k : Nat) (s : Sp) : opens (closeSp k e s) = (opens s && !decide (s.call = e.call)) := by
  unfold closeSp
  split
  · rename_i hh
    simp [opens, hh]
  · rename_i hh
    simp [hh]
/-- Closing changes the one span of the call alone. -/
theorem close_set {q : Nat} {s : Sp} (h : WInv S C B) (hq : S[q]? = some s) (hc : s.call = e.call) (k : Int) : S.map (closeSp k e) = S.set q (closeSp k e s) := by
  refine List.ext_getElem? fun i => ?_
  rw [List.getElem?_map]
  by_cases hiq : i = q
  · subst hiq
    rw [hq, List.getElem?_set_self (List.getElem?_eq_some_iff.1 hq).1]
    rfl
  · rw [List.getElem?_set_ne (Ne.symm hiq)]
    cases hx : S[i]? with
    | none => rfl
    | some x =>
      have hne : x.call ≠ e.call := by
        intro h2
        have hu := h.uniq
        rw [List.Nodup, List.pairwise_map, List.pairwise_iff_getElem] at hu
        obtain ⟨i1, i2⟩ := List.getElem?_eq_some_iff.1 hx
        obtain ⟨q1, q2⟩ := List.getElem?_eq_some_iff.1 hq
        rcases Nat.lt_or_gt_of_ne hiq with k1 | k1
        · exact hu i q i1 q1 k1 (by rw [i2, q2, h2, hc])
        · exact hu q i q1 i1 k1 (by rw [i2, q2, h2, hc])
      simp [closeSp, hne]
theorem WInv.close {q : Nat} {s : Sp} (h : WInv S C B) (hi : e.invoke = false) (hq : S[q]? = some s) (hc : s.call = e.call) (ht : s.thread = e.thread) (ho : opens s = true) (k : Nat) :
    WInv (stepS S k e) (putL C e.call ((q : Int), false)) (delL B e.thread) := by
  have hst : stepS S k e = S.map (closeSp k e) := by unfold stepS; rw [if_neg (by rw [hi]; simp)]
  have hone : ∀ x ∈ S, x.thread = e.thread → opens x = true → x = s := by
    intro x hx hxt hxo
    obtain ⟨j, hj⟩ := List.mem_iff_getElem?.1 hx
    have ha := h.apart
    rw [List.pairwise_iff_getElem] at ha
    obtain ⟨j1, j2⟩ := List.getElem?_eq_some_iff.1 hj
    obtain ⟨q1, q2⟩ := List.getElem?_eq_some_iff.1 hq
    rcases Nat.lt_trichotomy j q with k | k | k
    · exact absurd ⟨by rw [j2]; exact hxo, by rw [q2]; exact ho⟩ (ha j q j1 q1 k (by rw [j2, q2, hxt, ht]))
    · subst k
      rw [hq] at hj
      injection hj with hj
      exact hj.symm
    · exact absurd ⟨by rw [q2]; exact ho, by rw [j2]; exact hxo⟩ (ha q j q1 j1 k (by rw [j2, q2, hxt, ht]))
  rw [hst]
  refine ⟨fun c pl op => ?_, fun t => ?_, ?_, ?_⟩
  · rw [getL_putL]
    have key : ∀ (i : Nat) (x : Sp), S[i]? = some x → x.call = e.call → i = q := by
      intro i x hx h2
      have hu := h.uniq
      rw [List.Nodup, List.pairwise_map, List.pairwise_iff_getElem] at hu
      obtain ⟨i1, i2⟩ := List.getElem?_eq_some_iff.1 hx
      obtain ⟨q1, q2⟩ := List.getElem?_eq_some_iff.1 hq
      rcases Nat.lt_trichotomy i q with k1 | k1 | k1
      · exact absurd (by rw [i2, q2, h2, hc]) (hu i q i1 q1 k1)
      · exact k1
      · exact absurd (by rw [i2, q2, h2, hc]) (hu q i q1 i1 k1)
    by_cases hce : c = e.call
    · subst hce
      rw [if_pos rfl]
      constructor
      · intro hh
        injection hh with hh
        injection hh with h1 h2
        refine ⟨q, closeSp k e s, h1.symm, by rw [List.getElem?_map, hq]; rfl, (closeSp_call _ _).trans hc, ?_⟩
        rw [closeSp_opens, ← h2]
        simp [hc]
      · rintro ⟨i, x, rfl, hx, hxc, rfl⟩
        rw [List.getElem?_map] at hx
        cases hy : S[i]? with
        | none => rw [hy] at hx; cases hx
        | some y =>
          rw [hy] at hx
          injection hx with hx
          subst hx
          rw [closeSp_call] at hxc
          have := key i y hy hxc
          subst this
          rw [closeSp_opens]
          simp [hxc]
    · rw [if_neg hce, h.calls]
      constructor
      · rintro ⟨i, x, rfl, hx, hxc, rfl⟩
        refine ⟨i, closeSp k e x, rfl, by rw [List.getElem?_map, hx]; rfl, (closeSp_call _ _).trans hxc, ?_⟩
        rw [closeSp_opens]
        simp [hxc, hce]
      · rintro ⟨i, x, rfl, hx, hxc, rfl⟩
        rw [List.getElem?_map] at hx
        cases hy : S[i]? with
        | none => rw [hy] at hx; cases hx
        | some y =>
          rw [hy] at hx
          injection hx with hx
          subst hx
          rw [closeSp_call] at hxc
          refine ⟨i, y, rfl, hy, hxc, ?_⟩
          rw [closeSp_opens]
          simp [hxc, hce]
  · rw [hasL_delL, Bool.and_eq_true, h.busy]
    simp only [Bool.not_eq_true', decide_eq_false_iff_not, List.mem_map]
    constructor
    · rintro ⟨hte, x, hx, rfl, hxo⟩
      refine ⟨_, ⟨x, hx, rfl⟩, closeSp_thread _ _, ?_⟩
      rw [closeSp_opens, hxo]
      simp
      intro hxc
      obtain ⟨i, hi'⟩ := List.mem_iff_getElem?.1 hx
      have := any_call h hi' (fun y => y.thread == e.thread)
      have h3 : S.any (fun y => y.call == x.call && y.thread == e.thread) = true := List.any_eq_true.2 ⟨s, List.mem_of_getElem? hq, by simp [hc, hxc, ht]⟩
      rw [this] at h3
      exact hte (by simpa using h3)
    · rintro ⟨y, ⟨x, hx, rfl⟩, h1, h2⟩
      rw [closeSp_thread] at h1
      rw [closeSp_opens] at h2
      simp only [Bool.and_eq_true, Bool.not_eq_true', decide_eq_false_iff_not] at h2
      refine ⟨fun hte => ?_, x, hx, h1, h2.1⟩
      have := hone x hx (h1.trans hte) h2.1
      subst this
      exact h2.2 hc
  · rw [List.map_map]
    have : ((·.call) ∘ closeSp k e) = (fun s : Sp => s.call) := by funext x; exact closeSp_call _ _
    rw [this]
    exact h.uniq
  · rw [List.pairwise_map]
    refine h.apart.imp fun {a b} hab => ?_
    rw [closeSp_thread, closeSp_thread, closeSp_opens, closeSp_opens]
    intro h1 h2
    simp only [Bool.and_eq_true] at h2
    exact hab h1 ⟨h2.1.1, h2.2.1⟩
end
theorem walkS_cons {l : List Ev} {k : Nat} {e : Ev} {S : List Sp} (hk : l[k]? = some e) : walkS (l.drop k) k S = if nextE S e = 0 then walkS (l.drop (k + 1)) (k + 1) (stepS S k e) else (S, (k : Int), nextE S e) := by
  obtain ⟨h1, h2⟩ := List.getElem?_eq_some_iff.1 hk
  rw [List.drop_eq_getElem_cons h1, h2]
  rfl
end Go.Proofs.YtechagciefhpbaaDoor
