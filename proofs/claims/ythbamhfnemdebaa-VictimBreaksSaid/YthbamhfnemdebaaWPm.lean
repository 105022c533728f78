/-
  Plain: what Cycle tells is a cycle, and the first one. No condition.
-/
import Derived.Test.YthbamhfnemdebaaWPl
namespace Go.Proofs.Ythbamhfnemdebaa
open Go.RowKit
theorem pathB_fr (bk : Bk) (fr : Int) (f : Nat) : pathB bk fr f fr = [] := by
  cases f with
  | zero => rfl
  | succ f => unfold pathB; rw [if_pos rfl]
theorem pathB_ne (bk : Bk) {fr x : Int} (f : Nat) (h : ¬ x = fr) : pathB bk fr (f + 1) x = x :: pathB bk fr f (stepB bk x) := by
  conv => lhs; unfold pathB
  rw [if_neg h]
/-- Where the way back stands with what is left of it. -/
def onB (bk : Bk) (fr : Int) (f : Nat) (x : Int) : Prop := x = fr ∨ (x ∈ bk.map (·.1) ∧ posB bk x < f)
theorem onB_step {bk : Bk} {fr x : Int} {f : Nat} (hn : NodupL bk) (ht : trOK fr bk) (h : onB bk fr (f + 1) x) (hx : ¬ x = fr) : onB bk fr f (stepB bk x) := by
  obtain ⟨h1, h2⟩ := h.resolve_left hx
  rcases posB_step hn ht h1 with h3 | ⟨h3, h4⟩
  · exact .inl h3
  · exact .inr ⟨h3, by omega⟩
theorem onB_pos {bk : Bk} {fr x : Int} {f : Nat} (h : onB bk fr f x) (hx : ¬ x = fr) : 0 < f := by
  have := (h.resolve_left hx).2
  omega
theorem onB_key {bk : Bk} {fr x : Int} {f : Nat} (h : onB bk fr f x) (hx : ¬ x = fr) : x ∈ bk.map (·.1) := (h.resolve_left hx).1
theorem onB_start {N : Rw} {fr : Int} (h : fr ∈ (wyN N fr).map (·.1)) : onB (wyN N fr) fr (wyN N fr).length (stepB (wyN N fr) fr) := by
  rcases posB_step (wyN_nodup N fr) (wyN_tr N fr) h with h3 | ⟨h3, h4⟩
  · exact .inl h3
  · exact .inr ⟨h3, posB_lt h3⟩
theorem path_fuel {bk : Bk} {fr : Int} (hn : NodupL bk) (ht : trOK fr bk) : ∀ (f g : Nat) (x : Int), onB bk fr f x → onB bk fr g x → pathB bk fr f x = pathB bk fr g x
  | f, g, x, h1, h2 => by
    by_cases hx : x = fr
    · subst hx; rw [pathB_fr, pathB_fr]
    · obtain ⟨f, rfl⟩ : ∃ k, f = k + 1 := ⟨f - 1, by have := onB_pos h1 hx; omega⟩
      obtain ⟨g, rfl⟩ : ∃ k, g = k + 1 := ⟨g - 1, by have := onB_pos h2 hx; omega⟩
      rw [pathB_ne _ _ hx, pathB_ne _ _ hx, path_fuel hn ht f g _ (onB_step hn ht h1 hx) (onB_step hn ht h2 hx)]
termination_by f => f
theorem path_facts {bk : Bk} {fr : Int} (hn : NodupL bk) (ht : trOK fr bk) : ∀ (f : Nat) (x : Int), onB bk fr f x →
    (∀ i a b, (pathB bk fr f x ++ [fr])[i]? = some a → (pathB bk fr f x ++ [fr])[i + 1]? = some b → (a, b) ∈ bk) ∧ (pathB bk fr f x ++ [fr])[0]? = some x ∧ (∀ y ∈ pathB bk fr f x, y ≠ fr ∧ posB bk y ≤ posB bk x) ∧ (pathB bk fr f x).Nodup := by
  intro f
  induction f with
  | zero =>
    intro x h
    obtain rfl : x = fr := by
      refine Classical.byContradiction fun hx => ?_
      have := onB_pos h hx
      omega
    rw [pathB_fr]
    refine ⟨fun i a b _ h2 => ?_, rfl, by simp, by simp⟩
    simp at h2
  | succ f ih =>
    intro x h
    by_cases hx : x = fr
    · subst hx
      rw [pathB_fr]
      refine ⟨fun i a b _ h2 => ?_, rfl, by simp, by simp⟩
      simp at h2
    · rw [pathB_ne _ _ hx]
      obtain ⟨h1, h2, h3, h4⟩ := ih _ (onB_step hn ht h hx)
      have hk := onB_key h hx
      have hlt : ∀ y ∈ pathB bk fr f (stepB bk x), posB bk y < posB bk x := by
        intro y hy
        rcases posB_step hn ht hk with h5 | ⟨_, h6⟩
        · rw [h5, pathB_fr] at hy; simp at hy
        · exact Nat.lt_of_le_of_lt (h3 y hy).2 h6
      refine ⟨fun i a b ha hb => ?_, rfl, fun y hy => ?_, ?_⟩
      · cases i with
        | zero =>
          simp only [List.cons_append, List.getElem?_cons_zero, Option.some.injEq] at ha
          simp only [List.cons_append, Nat.zero_add, List.getElem?_cons_succ] at hb
          rw [h2] at hb
          injection hb with hb
          subst ha hb
          exact stepB_mem hn hk
        | succ i =>
          simp only [List.cons_append, List.getElem?_cons_succ] at ha hb
          exact h1 i a b ha hb
      · rcases List.mem_cons.1 hy with rfl | hy
        · exact ⟨hx, Nat.le_refl _⟩
        · exact ⟨(h3 y hy).1, Nat.le_of_lt (hlt y hy)⟩
      · rw [List.nodup_cons]
        refine ⟨fun hm => ?_, h4⟩
        have := hlt x hm
        omega
/-- What Cycle tells of one that reaches itself. -/
def rsC (N : Rw) (fr : Int) : List Int × Bool := ((pathB (wyN N fr) fr (wyN N fr).length (stepB (wyN N fr) fr) ++ [fr]).reverse, true)
theorem cycG_cons (N : Rw) (e : Ed) (r : List Ed) : cycG N (e :: r) = if hasL (wyN N e.from_) e.from_ then rsC N e.from_ else cycG N r := rfl
theorem hasW_iff (N : Rw) (fr x : Int) : hasL (wyN N fr) x = true ↔ Rd N fr x := by rw [hasL_iff, wyN_iff]
theorem cycG_no (N : Rw) : ∀ S : List Ed, (∀ e ∈ S, ¬ Rd N e.from_ e.from_) → cycG N S = ([], false)
  | [], _ => rfl
  | e :: r, h => by
    rw [cycG_cons, if_neg fun h1 => h e (List.mem_cons_self ..) ((hasW_iff N _ _).1 h1)]
    exact cycG_no N r fun e he => h e (List.mem_cons_of_mem _ he)
theorem cycG_min (N : Rw) (fr : Int) : ∀ S : List Ed, S.Pairwise (fun a b => a.from_ ≤ b.from_) → (∃ e ∈ S, e.from_ = fr) → Rd N fr fr → (∀ e ∈ S, Rd N e.from_ e.from_ → fr ≤ e.from_) → cycG N S = rsC N fr
  | [], _, h, _, _ => by obtain ⟨e, he, _⟩ := h; simp at he
  | e :: r, hp, ⟨e1, he1, hf⟩, hr, hm => by
    rw [List.pairwise_cons] at hp
    rw [cycG_cons]
    by_cases hh : hasL (wyN N e.from_) e.from_ = true
    · rw [if_pos hh]
      have h1 := hm e (List.mem_cons_self ..) ((hasW_iff N _ _).1 hh)
      have h2 : e.from_ ≤ fr := by
        rcases List.mem_cons.1 he1 with rfl | he1
        · omega
        · rw [← hf]; exact hp.1 e1 he1
      rw [show e.from_ = fr by omega]
    · rw [if_neg hh]
      refine cycG_min N fr r hp.2 ?_ hr fun e he => hm e (List.mem_cons_of_mem _ he)
      rcases List.mem_cons.1 he1 with rfl | he1
      · rw [hasW_iff, hf] at hh; exact absurd hr hh
      · exact ⟨e1, he1, hf⟩
theorem sd_from (L : List Ed) : (sdE L).Pairwise (fun a b => a.from_ ≤ b.from_) := (sdE_pw L).imp fun h => by simp only [ltE] at h; omega
/-- The two ends of Cycle. -/
theorem cyc_cases (L : List Ed) : (cyc L = ([], false) ∧ ∀ e ∈ L, ¬ Rd (nxL L) e.from_ e.from_) ∨ ∃ fr, cyc L = rsC (nxL L) fr ∧ Rd (nxL L) fr fr ∧ (∃ e ∈ L, e.from_ = fr) ∧ ∀ e ∈ L, Rd (nxL L) e.from_ e.from_ → fr ≤ e.from_ := by
  unfold cyc
  have key : ∀ S : List Ed, S.Pairwise (fun a b => a.from_ ≤ b.from_) → (∀ e ∈ S, ¬ Rd (nxL L) e.from_ e.from_) ∨ ∃ fr, Rd (nxL L) fr fr ∧ (∃ e ∈ S, e.from_ = fr) ∧ ∀ e ∈ S, Rd (nxL L) e.from_ e.from_ → fr ≤ e.from_ := by
    intro S
    induction S with
    | nil => exact fun _ => .inl (by simp)
    | cons e r ih =>
      intro hp
      rw [List.pairwise_cons] at hp
      by_cases hh : Rd (nxL L) e.from_ e.from_
      · refine .inr ⟨e.from_, hh, ⟨e, List.mem_cons_self .., rfl⟩, fun x hx _ => ?_⟩
        rcases List.mem_cons.1 hx with rfl | hx
        · exact Int.le_refl _
        · exact hp.1 x hx
      · rcases ih hp.2 with h | ⟨fr, h1, ⟨x, hx, hf⟩, h3⟩
        · refine .inl fun x hx => ?_
          rcases List.mem_cons.1 hx with rfl | hx
          · exact hh
          · exact h x hx
        · refine .inr ⟨fr, h1, ⟨x, List.mem_cons_of_mem _ hx, hf⟩, fun y hy hr => ?_⟩
          rcases List.mem_cons.1 hy with rfl | hy
          · exact absurd hr hh
          · exact h3 y hy hr
  rcases key (sdE L) (sd_from L) with h | ⟨fr, h1, ⟨x, hx, hf⟩, h3⟩
  · exact .inl ⟨cycG_no _ _ h, fun e he => h e ((sdE_mem L e).2 he)⟩
  · exact .inr ⟨fr, cycG_min _ fr _ (sd_from L) ⟨x, hx, hf⟩ h1 h3, h1, ⟨x, (sdE_mem L x).1 hx, hf⟩, fun e he => h3 e ((sdE_mem L e).2 he)⟩
/-- Whether there is a cycle is whether it has somebody. -/
theorem cyc_ok (L : List Ed) : (cyc L).2 = decide (0 < (cyc L).1.length) := by
  rcases cyc_cases L with ⟨h, _⟩ | ⟨fr, h, _⟩
  · rw [h]; rfl
  · rw [h]; simp [rsC]
theorem rsC_fst (N : Rw) (fr : Int) : (rsC N fr).1.getD 0 0 = fr := by simp [rsC]
/-- Who reaches itself is not before the first of the cycle. -/
theorem cyc_first (L : List Ed) (e : Ed) (he : e ∈ L) (hr : Rd (nxL L) e.from_ e.from_) : (cyc L).2 = true ∧ (cyc L).1.getD 0 0 ≤ e.from_ := by
  rcases cyc_cases L with ⟨_, h⟩ | ⟨fr, h, _, _, h3⟩
  · exact absurd hr (h e he)
  · rw [h]
    exact ⟨rfl, by rw [rsC_fst]; exact h3 e he hr⟩
/-- A cycle has nobody twice. -/
theorem cyc_nodup (L : List Ed) : (cyc L).1.Nodup := by
  rcases cyc_cases L with ⟨h, _⟩ | ⟨fr, h, hr, _⟩
  · rw [h]; simp
  · rw [h]
    obtain ⟨_, _, h3, h4⟩ := path_facts (wyN_nodup (nxL L) fr) (wyN_tr _ _) _ _ (onB_start ((wyN_iff _ _ _).2 hr))
    unfold rsC
    simp only
    refine (List.reverse_perm _).symm.nodup ?_
    rw [List.nodup_append]
    refine ⟨h4, by simp, fun x hx y hy => ?_⟩
    simp at hy
    subst hy
    exact (h3 x hx).1
/-- A cycle follows edges. -/
theorem cyc_edge (L : List Ed) (i : Nat) (hi : i < (cyc L).1.length) : ⟨(cyc L).1.getD i 0, (cyc L).1.getD (if i + 1 < (cyc L).1.length then i + 1 else 0) 0⟩ ∈ L := by
  rcases cyc_cases L with ⟨h, _⟩ | ⟨fr, h, hr, _⟩
  · rw [h] at hi; simp at hi
  · rw [h] at hi ⊢
    have hk := (wyN_iff (nxL L) fr fr).2 hr
    obtain ⟨h1, h2, _, _⟩ := path_facts (wyN_nodup (nxL L) fr) (wyN_tr _ _) _ _ (onB_start hk)
    have hpar := wyN_par (nxL L) fr
    have hst := stepB_mem (wyN_nodup (nxL L) fr) hk
    unfold rsC at hi ⊢
    simp only at hi ⊢
    have hlen : 0 < (pathB (wyN (nxL L) fr) fr (wyN (nxL L) fr).length (stepB (wyN (nxL L) fr) fr) ++ [fr]).length := by simp
    have hlast : (pathB (wyN (nxL L) fr) fr (wyN (nxL L) fr).length (stepB (wyN (nxL L) fr) fr) ++ [fr])[(pathB (wyN (nxL L) fr) fr (wyN (nxL L) fr).length (stepB (wyN (nxL L) fr) fr) ++ [fr]).length - 1]? = some fr := by simp
    generalize pathB (wyN (nxL L) fr) fr (wyN (nxL L) fr).length (stepB (wyN (nxL L) fr) fr) ++ [fr] = M at *
    rw [List.length_reverse] at hi ⊢
    have hg : ∀ j, j < M.length → M.reverse.getD j 0 = M.getD (M.length - 1 - j) 0 := by
      intro j hj
      rw [List.getD_eq_getElem?_getD, List.getD_eq_getElem?_getD, List.getElem?_reverse hj]
    have hs : ∀ j, j < M.length → M[j]? = some (M.getD j 0) := by
      intro j hj
      rw [List.getD_eq_getElem?_getD, List.getElem?_eq_getElem hj]
      rfl
    refine (rowL_mem L _ _).1 ?_
    split
    · rename_i hlt
      rw [hg i hi, hg (i + 1) hlt]
      exact hpar _ (h1 (M.length - 1 - (i + 1)) _ _ (hs _ (by omega)) (by rw [show M.length - 1 - (i + 1) + 1 = M.length - 1 - i by omega]; exact hs _ (by omega)))
    · rename_i hlt
      rw [hg i hi, hg 0 hlen]
      have e1 : M.length - 1 - i = 0 := by omega
      rw [e1, Nat.sub_zero]
      have e2 : M.getD 0 0 = stepB (wyN (nxL L) fr) fr := by rw [List.getD_eq_getElem?_getD, h2]; rfl
      have e3 : M.getD (M.length - 1) 0 = fr := by rw [List.getD_eq_getElem?_getD, hlast]; rfl
      rw [e2, e3]
      exact hpar _ hst
end Go.Proofs.Ythbamhfnemdebaa
