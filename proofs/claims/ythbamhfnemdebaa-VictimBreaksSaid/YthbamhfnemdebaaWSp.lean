/-
  The plain law of Sorted: the same edges, each once, in strict order. No condition.
-/
import Derived.Test.YthbamhfnemdebaaWSd
namespace Go.Proofs.Ythbamhfnemdebaa
open Go.RowKit
theorem ck_props (l : List Ed) (hs : l.Pairwise leE) : ∀ m, m ≤ l.length → (∀ e, e ∈ ck l m ↔ e ∈ l.take m) ∧ (ck l m).Pairwise ltE
  | 0, _ => by simp [ck]
  | m + 1, hm => by
    obtain ⟨h1, h2⟩ := ck_props l hs m (by omega)
    have hg : l.getD m default = l[m] := by simp [List.getD, show m < l.length by omega]
    have htk : l.take (m + 1) = l.take m ++ [l[m]] := List.take_succ_eq_append_getElem (by omega)
    have hle : ∀ i, ∀ h : i < m, leE (l[i]'(by omega)) (l[m]'(by omega)) := fun i h => List.pairwise_iff_getElem.1 hs i m (by omega) (by omega) h
    rw [ck_succ, htk, hg]
    cases hk : kp l m with
    | false =>
      simp only [Bool.false_eq_true, if_false, List.append_nil]
      refine ⟨fun e => ?_, h2⟩
      rw [h1, List.mem_append, List.mem_singleton]
      refine ⟨.inl, fun h => h.elim id fun h => ?_⟩
      subst h
      cases m with
      | zero => simp [kp] at hk
      | succ p =>
        have hp : l.getD p default = l[p] := by simp [List.getD, show p < l.length by omega]
        have he : l[p + 1] = l[p] := by
          unfold kp at hk
          rw [Nat.add_sub_cancel, hg, hp] at hk
          simpa using hk
        rw [he]
        exact List.mem_take_iff_getElem.2 ⟨p, by omega, rfl⟩
    | true =>
      simp only [if_true]
      refine ⟨fun e => by rw [List.mem_append, List.mem_append, h1], ?_⟩
      rw [List.pairwise_append]
      refine ⟨h2, List.pairwise_singleton _ _, fun x hx y hy => ?_⟩
      rw [List.mem_singleton] at hy
      subst hy
      rw [h1] at hx
      obtain ⟨i, hi, rfl⟩ := List.mem_take_iff_getElem.1 hx
      have hi2 : i < m := by omega
      have hxm := hle i hi2
      have hne : l[i]'(by omega) ≠ l[m]'(by omega) := by
        intro heq
        cases m with
        | zero => omega
        | succ p =>
          have hp : l.getD p default = l[p] := by simp [List.getD, show p < l.length by omega]
          have hd : l[p + 1] ≠ l[p] := by
            unfold kp at hk
            rw [Nat.add_sub_cancel, hg, hp] at hk
            simpa using hk
          have h3 : leE (l[i]'(by omega)) (l[p]'(by omega)) := by
            by_cases hip : i = p
            · subst hip
              simp [leE]
            · exact List.pairwise_iff_getElem.1 hs i p (by omega) (by omega) (by omega)
          have h4 : leE (l[p]'(by omega)) (l[p + 1]'(by omega)) := hle p (by omega)
          rw [heq] at h3
          exact hd (leE_anti _ _ h3 h4)
      generalize l[i]'(by omega) = x at *
      generalize l[m]'(by omega) = y at *
      obtain ⟨a, b⟩ := x
      obtain ⟨c, d⟩ := y
      simp only [leE, ltE, ne_eq, Ed.mk.injEq] at *
      omega
theorem sdE_mem (L : List Ed) (e : Ed) : e ∈ sdE L ↔ e ∈ L := by
  unfold sdE cpE
  rw [(ck_props (srtE L) (srtE_pw L) _ (Nat.le_refl _)).1 e, List.take_length]
  exact (srtE_perm L).mem_iff
theorem sdE_pw (L : List Ed) : (sdE L).Pairwise ltE := (ck_props (srtE L) (srtE_pw L) _ (Nat.le_refl _)).2
/-- Strict order and members make a list. -/
theorem ltE_uniq : ∀ (l l' : List Ed), l.Pairwise ltE → l'.Pairwise ltE → (∀ e, e ∈ l ↔ e ∈ l') → l = l'
  | [], [], _, _, _ => rfl
  | [], y :: l', _, _, h => by simpa using (h y)
  | x :: l, [], _, _, h => by simpa using (h x)
  | x :: l, y :: l', h1, h2, h => by
    rw [List.pairwise_cons] at h1 h2
    have irr : ∀ e : Ed, ¬ ltE e e := fun e he => by simp [ltE] at he
    have hxy : x = y := by
      rcases List.mem_cons.1 ((h x).1 (List.mem_cons_self ..)) with h3 | h3
      · exact h3
      · rcases List.mem_cons.1 ((h y).2 (List.mem_cons_self ..)) with h4 | h4
        · exact h4.symm
        · have h5 := h2.1 x h3
          have h6 := h1.1 y h4
          simp only [ltE] at h5 h6
          omega
    subst hxy
    congr 1
    refine ltE_uniq l l' h1.2 h2.2 fun e => ⟨fun he => ?_, fun he => ?_⟩
    · rcases List.mem_cons.1 ((h e).1 (List.mem_cons_of_mem _ he)) with h3 | h3
      · subst h3; exact absurd (h1.1 _ he) (irr _)
      · exact h3
    · rcases List.mem_cons.1 ((h e).2 (List.mem_cons_of_mem _ he)) with h3 | h3
      · subst h3; exact absurd (h2.1 _ he) (irr _)
      · exact h3
/-- Sorted of what is in strict order changes nothing. -/
theorem sdE_self (L : List Ed) (h : L.Pairwise ltE) : sdE L = L := ltE_uniq _ _ (sdE_pw L) h (sdE_mem L)
end Go.Proofs.Ythbamhfnemdebaa
