/-
  Plain: insertion of edges one by one makes them sorted, each once. No condition.
-/
import Derived.Test.YthbamhfnemdebaaWBg
namespace Go.Proofs.Ythbamhfnemdebaa
open Go.RowKit
def ltB (a b : Ed) : Bool := decide (a.from_ < b.from_) || (a.from_ == b.from_ && decide (a.to < b.to))
theorem ltB_iff (a b : Ed) : ltB a b = true ↔ ltE a b := by simp [ltB, ltE]
/-- The place of an edge among sorted ones. -/
def kS (l : List Ed) (e : Ed) : Nat := l.findIdx fun x => !ltB x e
def insS (l : List Ed) (e : Ed) : List Ed := if l[kS l e]? = some e then l else l.take (kS l e) ++ [e] ++ l.drop (kS l e)
theorem kS_eq (l : List Ed) (e : Ed) (k : Nat) (hk : k ≤ l.length) (h1 : ∀ x ∈ l.take k, ltB x e = true) (h2 : ∀ x, l[k]? = some x → ltB x e = false) : kS l e = k := by
  unfold kS
  conv => lhs; rw [← List.take_append_drop k l]
  rw [List.findIdx_append, if_neg]
  · rw [List.length_take, Nat.min_eq_left hk]
    cases hd : l.drop k with
    | nil => simp
    | cons x xs =>
      have : l[k]? = some x := by
        have := congrArg (·[0]?) hd
        simpa using this
      simp [List.findIdx_cons, h2 x this]
  · rw [Nat.not_lt]
    refine Nat.le_of_eq (List.findIdx_eq_length.2 fun x hx => ?_).symm
    rw [h1 x hx]
    rfl
theorem kS_le (l : List Ed) (e : Ed) : kS l e ≤ l.length := List.findIdx_le_length
theorem insS_mem (l : List Ed) (e x : Ed) : x ∈ insS l e ↔ x ∈ l ∨ x = e := by
  unfold insS
  split
  · rename_i h
    have := List.mem_of_getElem? h
    constructor
    · exact .inl
    · rintro (h | rfl)
      · exact h
      · exact this
  · conv => rhs; rw [← List.take_append_drop (kS l e) l]
    simp only [List.mem_append, List.mem_singleton]
    constructor
    · rintro ((h | h) | h)
      · exact .inl (.inl h)
      · exact .inr h
      · exact .inl (.inr h)
    · rintro ((h | h) | h)
      · exact .inl (.inl h)
      · exact .inr h
      · exact .inl (.inr h)
theorem insS_pw (l : List Ed) (e : Ed) (h : l.Pairwise ltE) : (insS l e).Pairwise ltE := by
  unfold insS
  split
  · exact h
  · rename_i hne
    have hlow : ∀ x ∈ l.take (kS l e), ltE x e := by
      intro x hx
      obtain ⟨i, hi, rfl⟩ := List.mem_take_iff_getElem.1 hx
      have hi2 : i < kS l e := by omega
      have h3 := List.not_of_lt_findIdx hi2
      have h4 : ltB (l[i]'(by omega)) e = true := by
        cases hb : ltB (l[i]'(by omega)) e with
        | true => rfl
        | false => rw [hb] at h3; cases h3
      exact (ltB_iff _ _).1 h4
    have hhigh : ∀ x ∈ l.drop (kS l e), ltE e x := by
      intro x hx
      obtain ⟨i, hi, rfl⟩ := List.mem_drop_iff_getElem.1 hx
      have hk : kS l e < l.length := by omega
      have h3 : (!ltB l[kS l e] e) = true := List.findIdx_getElem (w := hk)
      have h4 : ¬ ltE l[kS l e] e := by
        rw [← ltB_iff]
        intro h
        rw [h] at h3
        cases h3
      have h5 : l[kS l e] ≠ e := by
        intro h
        exact hne (by rw [List.getElem?_eq_getElem hk, h])
      have h6 : ltE e l[kS l e] := by
        generalize l[kS l e] = y at *
        obtain ⟨a, b⟩ := y
        obtain ⟨c, d⟩ := e
        simp only [ltE, ne_eq, Ed.mk.injEq] at *
        omega
      by_cases h0 : i = 0
      · subst h0
        exact h6
      · have h7 := List.pairwise_iff_getElem.1 h (kS l e) (kS l e + i) hk (by omega) (by omega)
        generalize l[kS l e] = y at h6 h7
        generalize l[kS l e + i] = x at h7 ⊢
        simp only [ltE] at *
        omega
    rw [List.append_assoc, List.pairwise_append]
    refine ⟨h.sublist (List.take_sublist _ _), ?_, fun x hx y hy => ?_⟩
    · rw [List.singleton_append, List.pairwise_cons]
      exact ⟨hhigh, h.sublist (List.drop_sublist _ _)⟩
    · rcases List.mem_append.1 hy with hy | hy
      · simp only [List.mem_singleton] at hy
        subst hy
        exact hlow x hx
      · have h1 := hlow x hx
        have h2 := hhigh y hy
        simp only [ltE] at *
        omega
theorem insS_fold (L : List Ed) : L.foldl insS [] = sdE L := by
  have key : ∀ (l O : List Ed), O.Pairwise ltE → (l.foldl insS O).Pairwise ltE ∧ ∀ x, x ∈ l.foldl insS O ↔ x ∈ O ∨ x ∈ l := by
    intro l
    induction l with
    | nil => exact fun O h => ⟨h, by simp⟩
    | cons e l ih =>
      intro O h
      obtain ⟨h1, h2⟩ := ih (insS O e) (insS_pw O e h)
      refine ⟨h1, fun x => ?_⟩
      rw [List.foldl_cons, h2, insS_mem, List.mem_cons, or_assoc]
  obtain ⟨h1, h2⟩ := key L [] (by simp)
  exact ltE_uniq _ _ h1 (sdE_pw L) fun x => by rw [h2, sdE_mem]; simp
theorem insS_len (l : List Ed) (e : Ed) : (insS l e).length ≤ l.length + 1 := by
  unfold insS
  split
  · omega
  · simp only [List.length_append, List.length_take, List.length_drop, List.length_cons, List.length_nil]
    have := kS_le l e
    omega
theorem foldS_len : ∀ (L O : List Ed), (L.foldl insS O).length ≤ O.length + L.length
  | [], O => by simp
  | e :: L, O => by
    have h1 := foldS_len L (insS O e)
    have h2 := insS_len O e
    simp only [List.foldl_cons, List.length_cons]
    omega
end Go.Proofs.Ythbamhfnemdebaa
