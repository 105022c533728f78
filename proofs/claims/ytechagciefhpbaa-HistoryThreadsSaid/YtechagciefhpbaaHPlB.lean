/-
  The plain law of valid histories: their spans, and what is left without pending calls. No program in sight. No condition.
-/
import Derived.Test.YtechagciefhpbaaHPend
namespace Go.Proofs.Ytechagciefhpbaa

def closedN (S : List Sp) : Nat := S.countP (fun s => !opens s)
/-- What the spans of the first j events are. -/
structure Hist (l : List Ev) (S : List Sp) (j : Nat) : Prop where
  fine : Fine S j
  begins : ∀ s ∈ S, ∃ e, l[s.from_.toNat]? = some e ∧ e.invoke = true ∧ e.call = s.call ∧ e.thread = s.thread
  ends : ∀ s ∈ S, opens s = false → ∃ e, l[s.to.toNat]? = some e ∧ e.invoke = false ∧ e.call = s.call ∧ e.act.code = s.act.code
  count : S.length + closedN S = j
  apart : S.Pairwise (fun s t => s.thread = t.thread → befB s t = true)
  uniq : (S.map (·.call)).Nodup
theorem Hist.nil (l : List Ev) : Hist l [] 0 := ⟨Fine.nil, fun s hs => by simp at hs, fun s hs => by simp at hs, rfl, List.Pairwise.nil, by simp⟩
theorem nextE_begin {S : List Sp} {e : Ev} (hi : e.invoke = true) (h : nextE S e = 0) : (∀ s ∈ S, s.call ≠ e.call) ∧ ∀ s ∈ S, s.thread = e.thread → opens s = false := by
  unfold nextE at h
  split at h
  · cases h
  · try rw [if_pos hi] at h
    split at h
    · cases h
    · rename_i h1
      split at h
      · cases h
      · rename_i h2
        rw [Bool.not_eq_true, List.any_eq_false] at h1 h2
        refine ⟨fun s hs => by simpa using h1 s hs, fun s hs ht => ?_⟩
        have := h2 s hs
        simpa [ht] using this
theorem nextE_begin_mk {S : List Sp} {e : Ev} (hs : shapeB e = true) (hi : e.invoke = true) (h1 : ∀ s ∈ S, s.call ≠ e.call) (h2 : ∀ s ∈ S, s.thread = e.thread → opens s = false) : nextE S e = 0 := by
  unfold nextE
  rw [if_neg (by rw [hs]; simp), if_pos hi, if_neg, if_neg]
  · rw [Bool.not_eq_true, List.any_eq_false]
    intro s hs
    have := h2 s hs
    simp
    exact this
  · rw [Bool.not_eq_true, List.any_eq_false]
    intro s hs
    simpa using h1 s hs
theorem nextE_end {S : List Sp} {e : Ev} (hi : e.invoke = false) (h : nextE S e = 0) : ∃ s ∈ S, s.call = e.call ∧ opens s = true ∧ s.thread = e.thread := by
  unfold nextE at h
  split at h
  · cases h
  · try rw [if_neg (by rw [hi]; simp)] at h
    split at h
    · rename_i h1
      obtain ⟨s, hs, h2⟩ := List.any_eq_true.1 h1
      simp only [Bool.and_eq_true, beq_iff_eq] at h2
      exact ⟨s, hs, h2.1, h2.2.1, h2.2.2⟩
    · cases h
theorem nextE_end_mk {S : List Sp} {e : Ev} {s : Sp} (hs : shapeB e = true) (hi : e.invoke = false) (hm : s ∈ S) (h1 : s.call = e.call) (h2 : opens s = true) (h3 : s.thread = e.thread) : nextE S e = 0 := by
  unfold nextE
  rw [if_neg (by rw [hs]; simp), if_neg (by rw [hi]; simp), if_pos]
  exact List.any_eq_true.2 ⟨s, hm, by simp [h1, h2, h3]⟩
theorem nextE_shape {S : List Sp} {e : Ev} (h : nextE S e = 0) : shapeB e = true := by
  unfold nextE at h
  split at h
  · cases h
  · rename_i h1
    simpa using h1
theorem uniq_eq {S : List Sp} (h : (S.map (·.call)).Nodup) {s t : Sp} (hs : s ∈ S) (ht : t ∈ S) (hc : s.call = t.call) : s = t := by
  obtain ⟨i, hi⟩ := List.mem_iff_getElem?.1 hs
  obtain ⟨j, hj⟩ := List.mem_iff_getElem?.1 ht
  rw [List.Nodup, List.pairwise_map, List.pairwise_iff_getElem] at h
  obtain ⟨i1, i2⟩ := List.getElem?_eq_some_iff.1 hi
  obtain ⟨j1, j2⟩ := List.getElem?_eq_some_iff.1 hj
  rcases Nat.lt_trichotomy i j with k | k | k
  · exact absurd (by rw [i2, j2, hc]) (h i j i1 j1 k)
  · subst k
    rw [hi] at hj
    injection hj
  · exact absurd (by rw [i2, j2, hc]) (h j i j1 i1 k)
theorem closed_map {e : Ev} {j : Nat} : ∀ (S : List Sp), (S.map (·.call)).Nodup → (∃ s ∈ S, s.call = e.call ∧ opens s = true) → closedN (S.map (closeSp j e)) = closedN S + 1
  | [], _, ⟨s, h, _⟩ => by simp at h
  | x :: S, hu, ⟨s, hs, hc, ho⟩ => by
    have hu' := hu
    simp only [List.map_cons, List.nodup_cons] at hu
    by_cases hx : x.call = e.call
    · have hxs : s = x := uniq_eq hu' hs (.head _) (hc.trans hx.symm)
      subst hxs
      have hrest : S.map (closeSp j e) = S := by
        rw [List.map_congr_left (g := id), List.map_id]
        intro y hy
        have : y.call ≠ e.call := fun h => hu.1 (List.mem_map.2 ⟨y, hy, h.trans hx.symm⟩)
        simp [closeSp, this]
      unfold closedN
      rw [List.map_cons, hrest, List.countP_cons, List.countP_cons, closeSp_opens]
      simp [hx, ho]
    · have hs' : s ∈ S := by
        rcases List.mem_cons.1 hs with h | h
        · subst h; exact absurd hc hx
        · exact h
      have ih := closed_map (j := j) S hu.2 ⟨s, hs', hc, ho⟩
      unfold closedN at ih ⊢
      rw [List.map_cons, List.countP_cons, List.countP_cons, ih, closeSp_opens]
      simp [hx]
      omega
theorem closeSp_from {e : Ev} (k : Int) (s : Sp) : (closeSp k e s).from_ = s.from_ := by unfold closeSp; split <;> rfl
theorem Hist.step {l : List Ev} {S : List Sp} {j : Nat} {e : Ev} (h : Hist l S j) (he : l[j]? = some e) (hn : nextE S e = 0) : Hist l (stepS S j e) (j + 1) := by
  have hF := h.fine.step e hn
  cases hi : e.invoke with
  | true =>
    obtain ⟨h1, h2⟩ := nextE_begin hi hn
    have hst : stepS S j e = S ++ [newSp j e] := by unfold stepS; rw [if_pos hi]
    rw [hst] at hF ⊢
    refine ⟨hF, fun s hs => ?_, fun s hs ho => ?_, ?_, ?_, ?_⟩
    · rcases List.mem_append.1 hs with hs | hs
      · exact h.begins s hs
      · simp at hs
        subst hs
        exact ⟨e, by simpa [newSp] using he, hi, rfl, rfl⟩
    · rcases List.mem_append.1 hs with hs | hs
      · exact h.ends s hs ho
      · simp at hs
        subst hs
        simp [opens, newSp] at ho
    · have := h.count
      unfold closedN at this ⊢
      have e1 : [newSp j e].countP (fun s => !opens s) = 0 := by simp [opens, newSp]
      rw [List.countP_append, List.length_append, e1, List.length_singleton]
      omega
    · rw [List.pairwise_append]
      refine ⟨h.apart, by simp, fun a ha b hb hab => ?_⟩
      simp at hb
      subst hb
      have h3 := h2 a ha hab
      have h4 := h.fine.at_ a ha
      have h5 : ¬ a.to < 0 := by unfold opens at h3; simpa using h3
      unfold befB
      rw [h3, Bool.not_false, Bool.true_and, decide_eq_true_eq]
      show a.to < (j : Int)
      omega
    · rw [List.map_append, List.nodup_append]
      refine ⟨h.uniq, by simp, fun a ha b hb hab => ?_⟩
      simp at hb
      obtain ⟨s, hs, rfl⟩ := List.mem_map.1 ha
      subst hb
      exact h1 s hs hab
  | false =>
    obtain ⟨s0, hm, hc, ho, ht⟩ := nextE_end hi hn
    have hst : stepS S j e = S.map (closeSp j e) := by unfold stepS; rw [if_neg (by rw [hi]; simp)]
    rw [hst] at hF ⊢
    refine ⟨hF, fun s hs => ?_, fun s hs hos => ?_, ?_, ?_, ?_⟩
    · obtain ⟨x, hx, rfl⟩ := List.mem_map.1 hs
      rw [closeSp_from, closeSp_call, closeSp_thread]
      exact h.begins x hx
    · obtain ⟨x, hx, rfl⟩ := List.mem_map.1 hs
      by_cases hxc : x.call = e.call
      · refine ⟨e, ?_, hi, ?_, ?_⟩
        · unfold closeSp; rw [if_pos hxc]; simpa using he
        · rw [closeSp_call]; exact hxc.symm
        · unfold closeSp; rw [if_pos hxc]
      · have : closeSp j e x = x := by unfold closeSp; rw [if_neg hxc]
        rw [this] at hos ⊢
        exact h.ends x hx hos
    · rw [List.length_map, closed_map S h.uniq ⟨s0, hm, hc, ho⟩]
      have := h.count
      omega
    · rw [List.pairwise_map]
      refine h.apart.imp_of_mem fun {a b} ha hb hab => ?_
      rw [closeSp_thread, closeSp_thread]
      intro hth
      have h3 := hab hth
      unfold befB at h3 ⊢
      rw [Bool.and_eq_true, Bool.not_eq_true', decide_eq_true_eq] at h3
      rw [closeSp_opens, closeSp_from, h3.1]
      have : closeSp j e a = a ∨ a.call = e.call := by
        unfold closeSp
        split
        · rename_i hh; exact .inr hh
        · exact .inl rfl
      rcases this with h4 | h4
      · rw [h4]; simpa using h3.2
      · have := uniq_eq h.uniq ha hm (h4.trans hc.symm)
        subst this
        rw [ho] at h3
        cases h3.1
    · rw [List.map_map]
      have : ((·.call) ∘ closeSp j e) = (fun s : Sp => s.call) := by funext x; exact closeSp_call _ _
      rw [this]
      exact h.uniq
/-- A walk that errs nowhere. -/
theorem Hist.walk {l : List Ev} : ∀ (m j : Nat) (S : List Sp), l.length - j ≤ m → j ≤ l.length → Hist l S j → (walkS (l.drop j) j S).2.2 = 0 → walkS (l.drop j) j S = ((walkS (l.drop j) j S).1, 0, 0) ∧ Hist l (walkS (l.drop j) j S).1 l.length
  | 0, j, S, hm, hj, h, _ => by
    have : j = l.length := by omega
    subst this
    rw [List.drop_of_length_le (Nat.le_refl _)]
    exact ⟨rfl, h⟩
  | m + 1, j, S, hm, hj, h, h0 => by
    rcases Nat.lt_or_ge j l.length with hlt | hge
    · have he : l[j]? = some l[j] := List.getElem?_eq_getElem hlt
      rw [walkS_cons he] at h0 ⊢
      split at h0
      · rename_i hn
        rw [if_pos hn]
        exact Hist.walk m (j + 1) _ (by omega) (by omega) (h.step he hn) h0
      · rename_i hn
        exact absurd h0 hn
    · have : j = l.length := by omega
      subst this
      rw [List.drop_of_length_le (Nat.le_refl _)]
      exact ⟨rfl, h⟩
theorem hist_of {l : List Ev} (h : (walkS l 0 []).2.2 = 0) : walkS l 0 [] = ((walkS l 0 []).1, 0, 0) ∧ Hist l (walkS l 0 []).1 l.length := by
  have := Hist.walk (l := l) l.length 0 [] (by omega) (by omega) (Hist.nil l) (by simpa using h)
  simpa using this
/-- The first event that is wrong: those before it are right. -/
theorem walk_err : ∀ (l : List Ev) (j : Nat) (S : List Sp), (walkS l j S).2.2 ≠ 0 → ∃ q, q < l.length ∧ (walkS l j S).2.1 = ((j + q : Nat) : Int) ∧ walkS (l.take q) j S = ((walkS l j S).1, 0, 0)
  | [], j, S, h => by simp [walkS] at h
  | e :: l, j, S, h => by
    unfold walkS at h ⊢
    split at h
    · rename_i hn
      obtain ⟨q, h1, h2, h3⟩ := walk_err l (j + 1) (stepS S j e) h
      refine ⟨q + 1, by simp; omega, ?_, ?_⟩
      · rw [if_pos hn, h2]
        congr 1
        omega
      · rw [if_pos hn, List.take_succ_cons]
        show (if nextE S e = 0 then walkS (l.take q) (j + 1) (stepS S j e) else _) = _
        rw [if_pos hn, h3]
    · rename_i hn
      exact ⟨0, by simp, by rw [if_neg hn]; simp, by rw [if_neg hn]; rfl⟩
/-- What is kept of spans on the way. -/
def Ext (S F : List Sp) : Prop := ∀ (q : Nat) (s : Sp), S[q]? = some s → ∃ f, F[q]? = some f ∧ f.from_ = s.from_ ∧ (opens s = false → opens f = false)
theorem Ext.refl (S : List Sp) : Ext S S := fun _ s h => ⟨s, h, rfl, fun h => h⟩
theorem Ext.trans {A B C : List Sp} (h : Ext A B) (k : Ext B C) : Ext A C := fun q s hs => by
  obtain ⟨f, h1, h2, h3⟩ := h q s hs
  obtain ⟨g, k1, k2, k3⟩ := k q f h1
  exact ⟨g, k1, k2.trans h2, fun ho => k3 (h3 ho)⟩
theorem Ext.step (S : List Sp) (j : Nat) (e : Ev) : Ext S (stepS S j e) := fun q s hs => by
  unfold stepS
  split
  · exact ⟨s, by rw [List.getElem?_append_left (List.getElem?_eq_some_iff.1 hs).1]; exact hs, rfl, fun h => h⟩
  · refine ⟨closeSp j e s, by rw [List.getElem?_map, hs]; rfl, closeSp_from _ _, fun ho => ?_⟩
    rw [closeSp_opens, ho]
    rfl
theorem Ext.walk : ∀ (l : List Ev) (j : Nat) (S : List Sp), Ext S (walkS l j S).1
  | [], j, S => Ext.refl S
  | e :: l, j, S => by
    unfold walkS
    split
    · exact (Ext.step S j e).trans (Ext.walk l (j + 1) _)
    · exact Ext.refl S
theorem from_walk : ∀ (l : List Ev) (j : Nat) (S : List Sp), ∀ f ∈ (walkS l j S).1, (∃ s ∈ S, s.from_ = f.from_) ∨ (j : Int) ≤ f.from_
  | [], j, S, f, hf => .inl ⟨f, hf, rfl⟩
  | e :: l, j, S, f, hf => by
    unfold walkS at hf
    split at hf
    · rcases from_walk l (j + 1) _ f hf with ⟨s, hs, h1⟩ | h1
      · unfold stepS at hs
        split at hs
        · rcases List.mem_append.1 hs with hs | hs
          · exact .inl ⟨s, hs, h1⟩
          · simp at hs
            subst hs
            refine .inr ?_
            rw [← h1]
            exact Int.le_refl _
        · obtain ⟨x, hx, rfl⟩ := List.mem_map.1 hs
          rw [closeSp_from] at h1
          exact .inl ⟨x, hx, h1⟩
      · exact .inr (by omega)
    · exact .inl ⟨f, hf, rfl⟩
def complG (G : List Int) : List Ev → Nat → List Ev
  | [], _ => []
  | e :: l, k => if G.contains (k : Int) then complG G l (k + 1) else e :: complG G l (k + 1)
theorem complG_eq (S : List Sp) : ∀ (l : List Ev) (k : Nat), complE S l k = complG (goneS S) l k
  | [], _ => rfl
  | e :: l, k => by simp only [complE, complG, complG_eq S l (k + 1)]
def Alike (s t : Sp) : Prop := s.call = t.call ∧ s.thread = t.thread ∧ opens s = opens t
inductive Corr (G : List Int) : List Sp → List Sp → Prop
  | nil : Corr G [] []
  | gone {s : Sp} {S T : List Sp} (h : s.from_ ∈ G) (k : Corr G S T) : Corr G (s :: S) T
  | kept {s t : Sp} {S T : List Sp} (h : s.from_ ∉ G) (a : Alike s t) (k : Corr G S T) : Corr G (s :: S) (t :: T)
theorem Corr.mem {G : List Int} {S T : List Sp} (h : Corr G S T) : ∀ t ∈ T, ∃ s ∈ S, s.from_ ∉ G ∧ Alike s t := by
  induction h with
  | nil => intro t ht; simp at ht
  | gone _ _ ih => intro t ht; obtain ⟨s, hs, h⟩ := ih t ht; exact ⟨s, .tail _ hs, h⟩
  | kept h a _ ih =>
    intro t ht
    rcases List.mem_cons.1 ht with rfl | ht
    · exact ⟨_, .head _, h, a⟩
    · obtain ⟨s, hs, h⟩ := ih t ht
      exact ⟨s, .tail _ hs, h⟩
theorem Corr.mem' {G : List Int} {S T : List Sp} (h : Corr G S T) : ∀ s ∈ S, s.from_ ∉ G → ∃ t ∈ T, Alike s t := by
  induction h with
  | nil => intro t ht; simp at ht
  | gone hg _ ih =>
    intro s hs hn
    rcases List.mem_cons.1 hs with rfl | hs
    · exact absurd hg hn
    · exact ih s hs hn
  | kept h a _ ih =>
    intro s hs hn
    rcases List.mem_cons.1 hs with rfl | hs
    · exact ⟨_, .head _, a⟩
    · obtain ⟨t, ht, h⟩ := ih s hs hn
      exact ⟨t, .tail _ ht, h⟩
theorem Corr.snoc_gone {G : List Int} {S T : List Sp} {s : Sp} (h : Corr G S T) (hg : s.from_ ∈ G) : Corr G (S ++ [s]) T := by
  induction h with
  | nil => exact .gone hg .nil
  | gone h1 _ ih => exact .gone h1 ih
  | kept h1 a _ ih => exact .kept h1 a ih
theorem Corr.snoc {G : List Int} {S T : List Sp} {s t : Sp} (h : Corr G S T) (hg : s.from_ ∉ G) (a : Alike s t) : Corr G (S ++ [s]) (T ++ [t]) := by
  induction h with
  | nil => exact .kept hg a .nil
  | gone h1 _ ih => exact .gone h1 ih
  | kept h1 a _ ih => exact .kept h1 a ih
theorem Corr.map {G : List Int} {S T : List Sp} {e : Ev} {j j' : Nat} (h : Corr G S T) : Corr G (S.map (closeSp j e)) (T.map (closeSp j' e)) := by
  induction h with
  | nil => exact .nil
  | gone h1 _ ih => exact .gone (by rw [closeSp_from]; exact h1) ih
  | kept h1 a _ ih =>
    refine .kept (by rw [closeSp_from]; exact h1) ⟨?_, ?_, ?_⟩ ih
    · rw [closeSp_call, closeSp_call]; exact a.1
    · rw [closeSp_thread, closeSp_thread]; exact a.2.1
    · rw [closeSp_opens, closeSp_opens, a.1, a.2.2]
theorem Corr.open_len {G : List Int} {S T : List Sp} (h : Corr G S T) (hS : ∀ s ∈ S, s.from_ ∈ G ↔ opens s = true) : T.length = closedN S := by
  induction h with
  | nil => rfl
  | @gone s S T h1 _ ih =>
    have h2 := (hS s (.head _)).1 h1
    rw [ih fun x hx => hS x (.tail _ hx)]
    simp [closedN, h2]
  | @kept s t S T h1 a _ ih =>
    have h2 : opens s = false := by
      cases ho : opens s with
      | false => rfl
      | true => exact absurd ((hS s (.head _)).2 ho) h1
    rw [List.length_cons, ih fun x hx => hS x (.tail _ hx)]
    simp [closedN, h2]
/-- Without the beginnings of calls that do not end, a valid history is valid. -/
theorem compl_walk (F : List Sp) : ∀ (l : List Ev) (j : Nat) (S T : List Sp) (j' : Nat), (walkS l j S).2.2 = 0 → (walkS l j S).1 = F → Fine S j → Corr (goneS F) S T →
    (∀ f ∈ F, ∀ g ∈ F, f.from_ = g.from_ → f = g) → (walkS (complG (goneS F) l j) j' T).2.2 = 0 ∧ Corr (goneS F) F (walkS (complG (goneS F) l j) j' T).1
  | [], j, S, T, j', _, h1, _, hc, _ => by
    simp only [walkS] at h1
    subst h1
    exact ⟨rfl, hc⟩
  | e :: l, j, S, T, j', h0, h1, hf, hc, hu => by
    unfold walkS at h0 h1
    split at h0
    case isFalse hn => exact absurd h0 hn
    case isTrue hn =>
      rw [if_pos hn] at h1
      have hF2 := hf.step e hn
      have hsh := nextE_shape hn
      have gmem : ∀ x, x ∈ goneS F ↔ ∃ f ∈ F, opens f = true ∧ f.from_ = x := fun x => by
        unfold goneS
        simp only [List.mem_map, List.mem_filter]
        exact ⟨fun ⟨f, ⟨h1, h2⟩, h3⟩ => ⟨f, h1, h2, h3⟩, fun ⟨f, h1, h2, h3⟩ => ⟨f, ⟨h1, h2⟩, h3⟩⟩
      cases hi : e.invoke with
      | true =>
        obtain ⟨b1, b2⟩ := nextE_begin hi hn
        have hst : stepS S j e = S ++ [newSp j e] := by unfold stepS; rw [if_pos hi]
        rw [hst] at h0 h1 hF2
        simp only [complG]
        by_cases hg : (goneS F).contains (j : Int) = true
        · rw [if_pos hg]
          exact compl_walk F l (j + 1) _ T j' h0 h1 hF2 (hc.snoc_gone (by simpa [newSp] using hg)) hu
        · rw [if_neg hg]
          have hn2 : nextE T e = 0 := nextE_begin_mk hsh hi (fun t ht => by
            obtain ⟨s, hs, _, a⟩ := hc.mem t ht
            rw [← a.1]
            exact b1 s hs) (fun t ht hth => by
            obtain ⟨s, hs, _, a⟩ := hc.mem t ht
            rw [← a.2.2]
            exact b2 s hs (a.2.1.trans hth))
          have hst2 : stepS T j' e = T ++ [newSp j' e] := by unfold stepS; rw [if_pos hi]
          unfold walkS
          rw [if_pos hn2, hst2]
          exact compl_walk F l (j + 1) _ _ (j' + 1) h0 h1 hF2 (hc.snoc (by simpa [newSp] using hg) ⟨rfl, rfl, by simp [opens, newSp]⟩) hu
      | false =>
        obtain ⟨s0, hm, hcl, ho, ht⟩ := nextE_end hi hn
        have hst : stepS S j e = S.map (closeSp j e) := by unfold stepS; rw [if_neg (by rw [hi]; simp)]
        rw [hst] at h0 h1 hF2
        simp only [complG]
        have hg : ¬ (goneS F).contains (j : Int) = true := by
          intro hg
          rw [List.contains_iff_mem, gmem] at hg
          obtain ⟨f, hfm, _, hff⟩ := hg
          rw [← h1] at hfm
          rcases from_walk l (j + 1) _ f hfm with ⟨s, hs, h2⟩ | h2
          · obtain ⟨x, hx, rfl⟩ := List.mem_map.1 hs
            rw [closeSp_from] at h2
            have := (hf.at_ x hx).2.1
            omega
          · omega
        rw [if_neg hg]
        have hs0 : s0.from_ ∉ goneS F := by
          intro hg2
          rw [gmem] at hg2
          obtain ⟨f, hfm, hfo, hff⟩ := hg2
          obtain ⟨q, hq⟩ := List.mem_iff_getElem?.1 hm
          have hq2 : (S.map (closeSp j e))[q]? = some (closeSp j e s0) := by rw [List.getElem?_map, hq]; rfl
          obtain ⟨g, hgq, hgf, hgo⟩ := Ext.walk l (j + 1) (S.map (closeSp j e)) q _ hq2
          rw [h1] at hgq
          have hgc := hgo (by rw [closeSp_opens, hcl]; simp)
          rw [closeSp_from] at hgf
          have := hu f hfm g (List.mem_of_getElem? hgq) (by rw [hff, hgf])
          subst this
          rw [hfo] at hgc
          cases hgc
        obtain ⟨t0, ht0, a⟩ := hc.mem' s0 hm hs0
        have hn2 : nextE T e = 0 := nextE_end_mk hsh hi ht0 (a.1.symm.trans hcl) (a.2.2.symm.trans ho) (a.2.1.symm.trans ht)
        have hst2 : stepS T j' e = T.map (closeSp j' e) := by unfold stepS; rw [if_neg (by rw [hi]; simp)]
        unfold walkS
        rw [if_pos hn2, hst2]
        exact compl_walk F l (j + 1) _ _ (j' + 1) h0 h1 hF2 hc.map hu
theorem fine_uniq {S : List Sp} {k : Nat} (h : Fine S k) : ∀ f ∈ S, ∀ g ∈ S, f.from_ = g.from_ → f = g := by
  intro f hf g hg hfg
  obtain ⟨i, hi⟩ := List.mem_iff_getElem?.1 hf
  obtain ⟨j, hj⟩ := List.mem_iff_getElem?.1 hg
  have hp := List.pairwise_iff_getElem.1 h.up
  obtain ⟨i1, i2⟩ := List.getElem?_eq_some_iff.1 hi
  obtain ⟨j1, j2⟩ := List.getElem?_eq_some_iff.1 hj
  rcases Nat.lt_trichotomy i j with k | k | k
  · have := hp i j i1 j1 k
    rw [i2, j2] at this
    omega
  · subst k
    rw [hi] at hj
    injection hj
  · have := hp j i j1 i1 k
    rw [i2, j2] at this
    omega
/-- What is left of a valid history without pending calls. -/
theorem compl_valid {l : List Ev} (h : (walkS l 0 []).2.2 = 0) :
    (walkS (complE (walkS l 0 []).1 l 0) 0 []).2.2 = 0 ∧ pendC (walkS (complE (walkS l 0 []).1 l 0) 0 []).1 = [] ∧ (complE (walkS l 0 []).1 l 0).length = 2 * closedN (walkS l 0 []).1 := by
  obtain ⟨_, hH⟩ := hist_of h
  obtain ⟨F, hF⟩ : ∃ F, (walkS l 0 []).1 = F := ⟨_, rfl⟩
  rw [hF] at hH ⊢
  rw [complG_eq]
  have hu := fine_uniq hH.fine
  obtain ⟨h1, h2⟩ := compl_walk F l 0 [] [] 0 h hF Fine.nil .nil hu
  have hiff : ∀ s ∈ F, s.from_ ∈ goneS F ↔ opens s = true := by
    intro s hs
    unfold goneS
    simp only [List.mem_map, List.mem_filter]
    constructor
    · rintro ⟨f, ⟨hf, ho⟩, hff⟩
      rw [← hu f hf s hs hff]
      exact ho
    · intro ho
      exact ⟨s, ⟨hs, ho⟩, rfl⟩
  obtain ⟨_, hH2⟩ := hist_of h1
  have hlen := h2.open_len hiff
  generalize hT : (walkS (complG (goneS F) l 0) 0 []).1 = T at *
  have hall : ∀ t ∈ T, opens t = false := by
    intro t ht
    obtain ⟨s, hs, hn, a⟩ := h2.mem t ht
    rw [← a.2.2]
    cases ho : opens s with
    | false => rfl
    | true => exact absurd ((hiff s hs).2 ho) hn
  refine ⟨h1, ?_, ?_⟩
  · unfold pendC
    rw [List.filter_eq_nil_iff.2 (fun t ht => by rw [hall t ht]; simp)]
    rfl
  · have hc := hH2.count
    have : closedN T = T.length := by
      unfold closedN
      rw [List.countP_eq_length]
      intro t ht
      rw [hall t ht]
      rfl
    omega
theorem pend_count (S : List Sp) : (pendC S).length + closedN S = S.length := by
  unfold pendC closedN
  rw [List.length_map]
  induction S with
  | nil => rfl
  | cons s S ih =>
    rw [List.filter_cons, List.countP_cons, List.length_cons]
    cases opens s <;> simp <;> omega
end Go.Proofs.Ytechagciefhpbaa
