/-
  The plain law of one thread's events: they are valid, with the thread's spans. No program in sight. No condition.
-/
import Derived.Test.YtechagciefhpbaaHPlB
namespace Go.Proofs.Ytechagciefhpbaa
inductive Own (t : Int) : List Sp → List Sp → Prop
  | nil : Own t [] []
  | other {s : Sp} {S T : List Sp} (h : s.thread ≠ t) (k : Own t S T) : Own t (s :: S) T
  | mine {s u : Sp} {S T : List Sp} (h : s.thread = t) (a : s.call = u.call ∧ s.thread = u.thread ∧ s.act = u.act ∧ opens s = opens u) (k : Own t S T) : Own t (s :: S) (u :: T)
section
variable {t : Int} {S T : List Sp}
theorem Own.mem (h : Own t S T) : ∀ u ∈ T, ∃ s ∈ S, s.thread = t ∧ s.call = u.call ∧ s.thread = u.thread ∧ opens s = opens u := by
  induction h with
  | nil => intro t ht; simp at ht
  | other _ _ ih => intro u hu; obtain ⟨s, hs, h⟩ := ih u hu; exact ⟨s, .tail _ hs, h⟩
  | mine h a _ ih =>
    intro u hu
    rcases List.mem_cons.1 hu with rfl | hu
    · exact ⟨_, .head _, h, a.1, a.2.1, a.2.2.2⟩
    · obtain ⟨s, hs, h⟩ := ih u hu
      exact ⟨s, .tail _ hs, h⟩
theorem Own.mem' (h : Own t S T) : ∀ s ∈ S, s.thread = t → ∃ u ∈ T, s.call = u.call ∧ s.thread = u.thread ∧ opens s = opens u := by
  induction h with
  | nil => intro t ht; simp at ht
  | other hg _ ih =>
    intro s hs hn
    rcases List.mem_cons.1 hs with rfl | hs
    · exact absurd hn hg
    · exact ih s hs hn
  | mine h a _ ih =>
    intro s hs hn
    rcases List.mem_cons.1 hs with rfl | hs
    · exact ⟨_, .head _, a.1, a.2.1, a.2.2.2⟩
    · obtain ⟨u, hu, h⟩ := ih s hs hn
      exact ⟨u, .tail _ hu, h⟩
theorem Own.snoc_other {s : Sp} (h : Own t S T) (hg : s.thread ≠ t) : Own t (S ++ [s]) T := by
  induction h with
  | nil => exact .other hg .nil
  | other h1 _ ih => exact .other h1 ih
  | mine h1 a _ ih => exact .mine h1 a ih
theorem Own.snoc {s u : Sp} (h : Own t S T) (hg : s.thread = t) (a : s.call = u.call ∧ s.thread = u.thread ∧ s.act = u.act ∧ opens s = opens u) : Own t (S ++ [s]) (T ++ [u]) := by
  induction h with
  | nil => exact .mine hg a .nil
  | other h1 _ ih => exact .other h1 ih
  | mine h1 b _ ih => exact .mine h1 b ih
theorem closeSp_act {s u : Sp} {e : Ev} {j j' : Int} (h1 : s.call = u.call) (h2 : s.act = u.act) : (closeSp j e s).act = (closeSp j' e u).act := by
  unfold closeSp
  rw [h1, h2]
  split <;> simp [h2]
theorem Own.map {e : Ev} {j j' : Nat} (h : Own t S T) : Own t (S.map (closeSp j e)) (T.map (closeSp j' e)) := by
  induction h with
  | nil => exact .nil
  | other h1 _ ih => exact .other (by rw [closeSp_thread]; exact h1) ih
  | mine h1 a _ ih =>
    refine .mine (by rw [closeSp_thread]; exact h1) ⟨?_, ?_, closeSp_act a.1 a.2.2.1, ?_⟩ ih
    · rw [closeSp_call, closeSp_call]; exact a.1
    · rw [closeSp_thread, closeSp_thread]; exact a.2.1
    · rw [closeSp_opens, closeSp_opens, a.1, a.2.2.2]
theorem Own.map_other {e : Ev} {j : Nat} (h : Own t S T) : (∀ s ∈ S, s.call = e.call → s.thread ≠ t) → Own t (S.map (closeSp j e)) T := by
  induction h with
  | nil => exact fun _ => .nil
  | other h1 _ ih => exact fun hS => .other (by rw [closeSp_thread]; exact h1) (ih fun s hs => hS s (.tail _ hs))
  | @mine s u S T h1 a _ ih =>
    intro hS
    have hc : closeSp j e s = s := by unfold closeSp; rw [if_neg fun hc => hS s (.head _) hc h1]
    rw [List.map_cons, hc]
    exact .mine h1 a (ih fun s hs => hS s (.tail _ hs))
end
theorem own_walk (t : Int) : ∀ (l : List Ev) (j : Nat) (S T : List Sp) (j' : Nat), (walkS l j S).2.2 = 0 → (S.map (·.call)).Nodup → Own t S T →
    (walkS (l.filter fun e => e.thread == t) j' T).2.2 = 0 ∧ Own t (walkS l j S).1 (walkS (l.filter fun e => e.thread == t) j' T).1
  | [], j, S, T, j', _, _, hc => ⟨rfl, hc⟩
  | e :: l, j, S, T, j', h0, hu, hc => by
    unfold walkS at h0
    split at h0
    case isFalse hn => exact absurd h0 hn
    case isTrue hn =>
      have hs := nextE_shape hn
      have e1 : (walkS (e :: l) j S).1 = (walkS l (j + 1) (stepS S j e)).1 := by
        conv => lhs; unfold walkS
        rw [if_pos hn]
      rw [e1]
      cases hi : e.invoke with
      | true =>
        obtain ⟨h1, h2⟩ := nextE_begin hi hn
        have hst : stepS S j e = S ++ [newSp j e] := by unfold stepS; rw [hi]; rfl
        have hu2 : ((stepS S j e).map (·.call)).Nodup := by
          rw [hst, List.map_append, List.nodup_append]
          refine ⟨hu, by simp, fun a ha b hb => ?_⟩
          simp [newSp] at hb
          obtain ⟨s, hs, rfl⟩ := List.mem_map.1 ha
          subst hb
          exact h1 s hs
        by_cases ht : e.thread = t
        · rw [List.filter_cons_of_pos (by simp [ht])]
          have hn2 : nextE T e = 0 := nextE_begin_mk hs hi
            (fun u hu => by obtain ⟨s, hs, _, hc, _, _⟩ := hc.mem u hu; rw [← hc]; exact h1 s hs)
            (fun u hu hut => by obtain ⟨s, hs, _, _, hst, ho⟩ := hc.mem u hu; rw [← ho]; exact h2 s hs (hst.trans hut))
          have hst2 : stepS T j' e = T ++ [newSp j' e] := by unfold stepS; rw [hi]; rfl
          have := own_walk t l (j + 1) _ (stepS T j' e) (j' + 1) h0 hu2 (by rw [hst, hst2]; exact hc.snoc ht ⟨rfl, rfl, rfl, rfl⟩)
          have e2 : walkS (e :: l.filter fun e => e.thread == t) j' T = walkS (l.filter fun e => e.thread == t) (j' + 1) (stepS T j' e) := by
            conv => lhs; unfold walkS
            rw [if_pos hn2]
          rw [e2]
          exact this
        · rw [List.filter_cons_of_neg (by simp [ht])]
          exact own_walk t l (j + 1) _ T j' h0 hu2 (by rw [hst]; exact hc.snoc_other ht)
      | false =>
        obtain ⟨s, hm, h1, h2, h3⟩ := nextE_end hi hn
        have hst : stepS S j e = S.map (closeSp j e) := by unfold stepS; rw [hi]; rfl
        have hu2 : ((stepS S j e).map (·.call)).Nodup := by
          rw [hst, List.map_map]
          have : (fun s : Sp => s.call) ∘ closeSp j e = fun s => s.call := by funext s; exact closeSp_call _ s
          rw [this]
          exact hu
        by_cases ht : e.thread = t
        · rw [List.filter_cons_of_pos (by simp [ht])]
          obtain ⟨u, hum, a1, a2, a3⟩ := hc.mem' s hm (h3.trans ht)
          have hn2 : nextE T e = 0 := nextE_end_mk hs hi hum (a1.symm.trans h1) (a3.symm.trans h2) (a2.symm.trans h3)
          have hst2 : stepS T j' e = T.map (closeSp j' e) := by unfold stepS; rw [hi]; rfl
          have := own_walk t l (j + 1) _ (stepS T j' e) (j' + 1) h0 hu2 (by rw [hst, hst2]; exact hc.map)
          have e2 : walkS (e :: l.filter fun e => e.thread == t) j' T = walkS (l.filter fun e => e.thread == t) (j' + 1) (stepS T j' e) := by
            conv => lhs; unfold walkS
            rw [if_pos hn2]
          rw [e2]
          exact this
        · rw [List.filter_cons_of_neg (by simp [ht])]
          refine own_walk t l (j + 1) _ T j' h0 hu2 ?_
          rw [hst]
          exact hc.map_other fun x hx hxc hxt => ht (by rw [← h3, uniq_eq hu hm hx (h1.trans hxc.symm)]; exact hxt)
def thN (t : Int) (S : List Sp) : Nat := S.countP (fun s => s.thread == t)
theorem Own.len {t : Int} {S T : List Sp} (h : Own t S T) : T.length = thN t S := by
  induction h with
  | nil => rfl
  | other h1 _ ih => rw [ih]; simp [thN, h1]
  | mine h1 a _ ih => rw [List.length_cons, ih]; simp [thN, h1]
theorem Own.at_ {t : Int} {S T : List Sp} (h : Own t S T) : ∀ (k : Nat) (s : Sp), S[k]? = some s → s.thread = t → ∃ u, T[thN t (S.take k)]? = some u ∧ s.call = u.call ∧ s.act = u.act ∧ opens s = opens u := by
  induction h with
  | nil => intro k s h; simp at h
  | other h1 _ ih =>
    intro k s hk ht
    cases k with
    | zero => simp at hk; subst hk; exact absurd ht h1
    | succ k =>
      obtain ⟨u, hu, h⟩ := ih k s (by simpa using hk) ht
      exact ⟨u, by simpa [thN, h1] using hu, h⟩
  | mine h1 a _ ih =>
    intro k s hk ht
    cases k with
    | zero => simp at hk; subst hk; exact ⟨_, by simp [thN], a.1, a.2.2.1, a.2.2.2⟩
    | succ k =>
      obtain ⟨u, hu, h⟩ := ih k s (by simpa using hk) ht
      exact ⟨u, by simpa [thN, h1] using hu, h⟩
theorem thN_step {t : Int} {S : List Sp} {k : Nat} {s : Sp} (h : S[k]? = some s) : thN t (S.take (k + 1)) = thN t (S.take k) + if s.thread = t then 1 else 0 := by
  rw [take_snoc_get h]
  unfold thN
  rw [List.countP_append]
  simp
theorem befB_closed {s u : Sp} (h : befB s u = true) : opens s = false := by
  unfold befB at h
  simp only [Bool.and_eq_true] at h
  simpa using h.1
theorem pend_one {t : Int} : ∀ (S : List Sp), S.Pairwise (fun s u => s.thread = u.thread → befB s u = true) → (∀ s ∈ S, s.thread = t) → (pendC S).length ≤ 1
  | [], _, _ => by simp [pendC]
  | s :: S, hp, ht => by
    rw [List.pairwise_cons] at hp
    have ih := pend_one S hp.2 (fun x hx => ht x (.tail _ hx))
    cases ho : opens s with
    | false => simpa [pendC, ho] using ih
    | true =>
      have hS : S = [] := by
        cases S with
        | nil => rfl
        | cons u S =>
          have h1 := hp.1 u (.head _) ((ht s (.head _)).trans (ht u (.tail _ (.head _))).symm)
          rw [befB_closed h1] at ho
          cases ho
      subst hS
      simp [pendC, ho]
/-- The events of the threads of X. -/
def inTh (X l : List Ev) : List Ev := l.filter fun e => X.any fun x => x.thread == e.thread
theorem inTh_all (l : List Ev) : inTh l l = l := by
  unfold inTh
  rw [List.filter_eq_self]
  intro e he
  exact List.any_eq_true.2 ⟨e, he, by simp⟩
theorem inTh_old {X l : List Ev} {e : Ev} (h : X.any (fun x => x.thread == e.thread) = true) : inTh (X ++ [e]) l = inTh X l := by
  unfold inTh
  congr 1
  funext y
  rw [List.any_append]
  by_cases hy : e.thread = y.thread
  · rw [hy] at h
    simp [h]
  · simp [hy]
theorem inTh_new {X l : List Ev} {e : Ev} (h : X.any (fun x => x.thread == e.thread) = false) : (inTh (X ++ [e]) l).length = (inTh X l).length + (l.filter fun y => y.thread == e.thread).length := by
  unfold inTh
  simp only [← List.countP_eq_length_filter, List.any_append]
  induction l with
  | nil => rfl
  | cons y l ih =>
    simp only [List.countP_cons, ih]
    by_cases hy : y.thread = e.thread
    · rw [hy]
      simp [h]
      omega
    · have : ¬ e.thread = y.thread := fun h => hy h.symm
      simp [hy, this]
      omega
end Go.Proofs.Ytechagciefhpbaa
