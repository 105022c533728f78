/-
  Heaps of numbers, as lists: what up and down make of them (plain: no program). No condition.
-/
import Derived.Test.YtbfkkghbkpbhlaaBase
namespace Go.Proofs.Ytbfkkghbkpbhlaa
def swapL (xs : List Int) (i j : Nat) : List Int := (xs.set i (xs.getD j 0)).set j (xs.getD i 0)
theorem swapL_len (xs : List Int) (i j : Nat) : (swapL xs i j).length = xs.length := by simp [swapL]
theorem getD_swap (xs : List Int) (i j k : Nat) (hi : i < xs.length) (hj : j < xs.length) : (swapL xs i j).getD k 0 = if k = j then xs.getD i 0 else if k = i then xs.getD j 0 else xs.getD k 0 := by
  unfold swapL
  simp only [List.getD_eq_getElem?_getD]
  by_cases h1 : k = j
  · subst h1
    rw [if_pos rfl, List.getElem?_set_self (by simpa using hj)]
    rfl
  · rw [if_neg h1, List.getElem?_set_ne (fun e => h1 e.symm)]
    by_cases h2 : k = i
    · subst h2
      rw [if_pos rfl, List.getElem?_set_self hi]
      rfl
    · rw [if_neg h2, List.getElem?_set_ne (fun e => h2 e.symm)]
/-- What stands in a list, and that nothing stands there twice. -/
def Inj (xs : List Int) : Prop := ∀ p q, p < xs.length → q < xs.length → xs.getD p 0 = xs.getD q 0 → p = q
def Has (xs : List Int) (v : Int) : Prop := ∃ p, p < xs.length ∧ xs.getD p 0 = v
theorem inj_swap {xs : List Int} {i j : Nat} (hi : i < xs.length) (hj : j < xs.length) (h : Inj xs) : Inj (swapL xs i j) := by
  intro p q hp hq he
  rw [swapL_len] at hp hq
  rw [getD_swap xs i j p hi hj, getD_swap xs i j q hi hj] at he
  split at he <;> split at he <;> try (split at he) <;> try (split at he)
  all_goals first | omega | (have := h _ _ (by assumption) (by assumption) he; omega)
theorem has_swap {xs : List Int} {i j : Nat} (hi : i < xs.length) (hj : j < xs.length) (v : Int) : Has (swapL xs i j) v ↔ Has xs v := by
  constructor
  · rintro ⟨p, hp, he⟩
    rw [swapL_len] at hp
    rw [getD_swap xs i j p hi hj] at he
    split at he
    · exact ⟨i, hi, he⟩
    · split at he
      · exact ⟨j, hj, he⟩
      · exact ⟨p, hp, he⟩
  · rintro ⟨p, hp, he⟩
    by_cases h1 : p = i
    · exact ⟨j, by rw [swapL_len]; exact hj, by rw [getD_swap xs i j j hi hj, if_pos rfl, ← h1]; exact he⟩
    · by_cases h2 : p = j
      · refine ⟨i, by rw [swapL_len]; exact hi, ?_⟩
        rw [getD_swap xs i j i hi hj]
        split
        · rename_i h3
          rw [h3, ← h2]
          exact he
        · rw [if_pos rfl, ← h2]
          exact he
      · exact ⟨p, by rw [swapL_len]; exact hp, by rw [getD_swap xs i j p hi hj, if_neg h2, if_neg h1]; exact he⟩
def upL (xs : List Int) (j : Nat) : List Int :=
  if j = 0 then xs
  else if xs.getD j 0 < xs.getD ((j - 1) / 2) 0 then upL (swapL xs ((j - 1) / 2) j) ((j - 1) / 2) else xs
termination_by j
decreasing_by omega
def kidL (xs : List Int) (i n : Nat) : Nat := if 2 * i + 2 < n ∧ xs.getD (2 * i + 2) 0 < xs.getD (2 * i + 1) 0 then 2 * i + 2 else 2 * i + 1
theorem kidL_gt (xs : List Int) (i n : Nat) : i < kidL xs i n := by unfold kidL; split <;> omega
theorem kidL_lt (xs : List Int) (i n : Nat) (h : 2 * i + 1 < n) : kidL xs i n < n := by unfold kidL; split <;> omega
def downL (xs : List Int) (i n : Nat) : List Int :=
  if h : 2 * i + 1 < n then
    if xs.getD (kidL xs i n) 0 < xs.getD i 0 then downL (swapL xs i (kidL xs i n)) (kidL xs i n) n else xs
  else xs
termination_by n - i
decreasing_by have := kidL_gt xs i n; omega
def HeapN (xs : List Int) (n : Nat) : Prop := ∀ k, 0 < k → k < n → xs.getD ((k - 1) / 2) 0 ≤ xs.getD k 0
def UpOK (xs : List Int) (n j : Nat) : Prop := (∀ k, 0 < k → k < n → k ≠ j → xs.getD ((k - 1) / 2) 0 ≤ xs.getD k 0) ∧ (∀ k, 0 < k → k < n → (k - 1) / 2 = j → 0 < j → xs.getD ((j - 1) / 2) 0 ≤ xs.getD k 0)
def DownOK (xs : List Int) (n i : Nat) : Prop := (∀ k, 0 < k → k < n → (k - 1) / 2 ≠ i → xs.getD ((k - 1) / 2) 0 ≤ xs.getD k 0) ∧ (∀ k, 0 < k → k < n → (k - 1) / 2 = i → 0 < i → xs.getD ((i - 1) / 2) 0 ≤ xs.getD k 0)
theorem up_all (n : Nat) : ∀ (j : Nat) (xs : List Int), j < n → n ≤ xs.length → UpOK xs n j →
    HeapN (upL xs j) n ∧ (upL xs j).length = xs.length ∧ (Inj xs → Inj (upL xs j)) ∧ (∀ v, Has (upL xs j) v ↔ Has xs v) := by
  intro j
  induction j using Nat.strongRecOn with
  | ind j ih =>
    intro xs hj hn h
    rw [upL]
    split
    · rename_i h0
      subst h0
      exact ⟨fun k h1 h2 => h.1 k h1 h2 (by omega), rfl, id, fun _ => Iff.rfl⟩
    · rename_i h0
      split
      · rename_i hlt
        have hp : (j - 1) / 2 < j := by omega
        have hg := fun k => getD_swap xs ((j - 1) / 2) j k (by omega) (by omega)
        generalize hq : (j - 1) / 2 = p at *
        obtain ⟨r1, r2, r3, r4⟩ := ih p hp (swapL xs p j) (by omega) (by rw [swapL_len]; exact hn) (by
          constructor
          · intro k h1 h2 h3
            rw [hg, hg]
            by_cases hkj : k = j
            · subst hkj
              rw [hq, if_neg (by omega), if_pos rfl, if_pos rfl]
              omega
            · rw [if_neg hkj, if_neg h3]
              by_cases hpp : (k - 1) / 2 = p
              · rw [hpp, if_neg (by omega), if_pos rfl]
                have := h.1 k h1 h2 hkj
                rw [hpp] at this
                omega
              · by_cases hpj : (k - 1) / 2 = j
                · rw [if_pos hpj]
                  have := h.2 k h1 h2 hpj (by omega)
                  rw [hq] at this
                  exact this
                · rw [if_neg hpj, if_neg hpp]
                  exact h.1 k h1 h2 hkj
          · intro k h1 h2 h3 h4
            have hpp : (p - 1) / 2 < p := by omega
            rw [hg, hg, if_neg (by omega), if_neg (by omega)]
            have a1 := h.1 p h4 (by omega) (by omega)
            by_cases hkj : k = j
            · rw [if_pos hkj]
              exact a1
            · rw [if_neg hkj, if_neg (by omega)]
              have a2 := h.1 k h1 h2 hkj
              rw [h3] at a2
              omega)
        rw [swapL_len] at r2
        exact ⟨r1, r2, fun hi => r3 (inj_swap (by omega) (by omega) hi), fun v => (r4 v).trans (has_swap (by omega) (by omega) v)⟩
      · rename_i hge
        refine ⟨fun k h1 h2 => ?_, rfl, id, fun _ => Iff.rfl⟩
        by_cases hkj : k = j
        · subst hkj
          omega
        · exact h.1 k h1 h2 hkj
theorem kidL_min (xs : List Int) (i n k : Nat) (h1 : 0 < k) (h2 : k < n) (h3 : (k - 1) / 2 = i) : xs.getD (kidL xs i n) 0 ≤ xs.getD k 0 := by
  have : k = 2 * i + 1 ∨ k = 2 * i + 2 := by omega
  unfold kidL
  split
  · rename_i h
    rcases this with rfl | rfl
    · omega
    · exact Int.le_refl _
  · rename_i h
    rcases this with rfl | rfl
    · exact Int.le_refl _
    · have : ¬ xs.getD (2 * i + 2) 0 < xs.getD (2 * i + 1) 0 := fun hh => h ⟨h2, hh⟩
      omega
theorem down_all (n : Nat) : ∀ (d i : Nat) (xs : List Int), n - i = d → n ≤ xs.length → DownOK xs n i →
    HeapN (downL xs i n) n ∧ (downL xs i n).length = xs.length ∧ (Inj xs → Inj (downL xs i n)) ∧ (∀ v, Has (downL xs i n) v ↔ Has xs v) ∧ (∀ k, n ≤ k → (downL xs i n).getD k 0 = xs.getD k 0) := by
  intro d
  induction d using Nat.strongRecOn with
  | ind d ih =>
    intro i xs hd hn h
    rw [downL]
    split
    · rename_i h1
      have hkg := kidL_gt xs i n
      have hkl := kidL_lt xs i n h1
      have hkp : (kidL xs i n - 1) / 2 = i := by unfold kidL; split <;> omega
      have hmin := kidL_min xs i n
      split
      · rename_i hlt
        have hg := fun k => getD_swap xs i (kidL xs i n) k (by omega) (by omega)
        generalize kidL xs i n = j at *
        obtain ⟨r1, r2, r3, r4, r5⟩ := ih (n - j) (by omega) j (swapL xs i j) rfl (by rw [swapL_len]; exact hn) (by
          constructor
          · intro k k1 k2 k3
            rw [hg, hg, if_neg k3]
            by_cases hkj : k = j
            · subst hkj
              rw [hkp, if_pos rfl, if_pos rfl]
              omega
            · rw [if_neg hkj]
              by_cases hki : k = i
              · subst hki
                rw [if_pos rfl, if_neg (by omega)]
                exact h.2 j (by omega) hkl hkp k1
              · rw [if_neg hki]
                by_cases hpi : (k - 1) / 2 = i
                · rw [if_pos hpi]
                  exact hmin k k1 k2 hpi
                · rw [if_neg hpi]
                  exact h.1 k k1 k2 hpi
          · intro k k1 k2 k3 k4
            rw [hg, hg, hkp, if_neg (by omega), if_pos rfl, if_neg (by omega), if_neg (by omega)]
            have := h.1 k k1 k2 (by omega)
            rw [k3] at this
            exact this)
        rw [swapL_len] at r2
        exact ⟨r1, r2, fun hi => r3 (inj_swap (by omega) (by omega) hi), fun v => (r4 v).trans (has_swap (by omega) (by omega) v), fun k hk => by rw [r5 k hk, hg, if_neg (by omega), if_neg (by omega)]⟩
      · rename_i hge
        refine ⟨fun k k1 k2 => ?_, rfl, id, fun _ => Iff.rfl, fun _ _ => rfl⟩
        by_cases hpi : (k - 1) / 2 = i
        · have := hmin k k1 k2 hpi
          rw [hpi]
          omega
        · exact h.1 k k1 k2 hpi
    · rename_i h1
      refine ⟨fun k k1 k2 => h.1 k k1 k2 (by omega), rfl, id, fun _ => Iff.rfl, fun _ _ => rfl⟩
theorem heap_min (xs : List Int) (n : Nat) (h : HeapN xs n) : ∀ k, k < n → xs.getD 0 0 ≤ xs.getD k 0 := by
  intro k
  induction k using Nat.strongRecOn with
  | ind k ih =>
    intro hk
    by_cases h0 : k = 0
    · subst h0; exact Int.le_refl _
    · have h1 := h k (by omega) hk
      have h2 := ih ((k - 1) / 2) (by omega) (by omega)
      omega
/-- A push. -/
def pushL (xs : List Int) (v : Int) : List Int := upL (xs ++ [v]) xs.length
theorem push_all (xs : List Int) (v : Int) (h : HeapN xs xs.length) :
    HeapN (pushL xs v) (xs.length + 1) ∧ (pushL xs v).length = xs.length + 1 ∧ (Inj xs → ¬ Has xs v → Inj (pushL xs v)) ∧ (∀ u, Has (pushL xs v) u ↔ Has xs u ∨ u = v) := by
  have hg : ∀ k, k < xs.length → (xs ++ [v]).getD k 0 = xs.getD k 0 := fun k hk => by rw [List.getD_eq_getElem?_getD, List.getD_eq_getElem?_getD, List.getElem?_append_left hk]
  have hv : (xs ++ [v]).getD xs.length 0 = v := by simp [List.getD_eq_getElem?_getD]
  have hl : (xs ++ [v]).length = xs.length + 1 := by simp
  obtain ⟨r1, r2, r3, r4⟩ := up_all (xs.length + 1) xs.length (xs ++ [v]) (by omega) (by omega) ⟨fun k k1 k2 k3 => by rw [hg _ (by omega), hg _ (by omega)]; exact h k k1 (by omega), fun k k1 k2 k3 k4 => by omega⟩
  refine ⟨r1, by unfold pushL; rw [r2, hl], fun hi hn => r3 ?_, fun u => (r4 u).trans ?_⟩
  · intro p q hp hq he
    rw [hl] at hp hq
    by_cases h1 : p = xs.length
    · by_cases h2 : q = xs.length
      · omega
      · subst h1
        rw [hv, hg q (by omega)] at he
        exact absurd ⟨q, by omega, he.symm⟩ hn
    · by_cases h2 : q = xs.length
      · subst h2
        rw [hv, hg p (by omega)] at he
        exact absurd ⟨p, by omega, he⟩ hn
      · rw [hg p (by omega), hg q (by omega)] at he
        exact hi p q (by omega) (by omega) he
  · constructor
    · rintro ⟨p, hp, he⟩
      rw [hl] at hp
      by_cases h1 : p = xs.length
      · subst h1
        rw [hv] at he
        exact .inr he.symm
      · rw [hg p (by omega)] at he
        exact .inl ⟨p, by omega, he⟩
    · rintro (⟨p, hp, he⟩ | rfl)
      · exact ⟨p, by omega, by rw [hg p hp]; exact he⟩
      · exact ⟨xs.length, by omega, hv⟩
/-- A pop: what is left. -/
def popL (xs : List Int) : List Int := (downL (swapL xs 0 (xs.length - 1)) 0 (xs.length - 1)).take (xs.length - 1)
theorem pop_all (xs : List Int) (h : HeapN xs xs.length) (h0 : 0 < xs.length) (hi : Inj xs) :
    (downL (swapL xs 0 (xs.length - 1)) 0 (xs.length - 1)).getD (xs.length - 1) 0 = xs.getD 0 0 ∧ (downL (swapL xs 0 (xs.length - 1)) 0 (xs.length - 1)).length = xs.length ∧
    HeapN (popL xs) (xs.length - 1) ∧ (popL xs).length = xs.length - 1 ∧ Inj (popL xs) ∧ (∀ u, Has (popL xs) u ↔ Has xs u ∧ u ≠ xs.getD 0 0) := by
  have hg := fun k => getD_swap xs 0 (xs.length - 1) k h0 (by omega)
  generalize hn : xs.length - 1 = n at *
  obtain ⟨r1, r2, r3, r4, r5⟩ := down_all n (n - 0) 0 (swapL xs 0 n) rfl (by rw [swapL_len]; omega) ⟨fun k k1 k2 k3 => by
    rw [hg, hg, if_neg (by omega), if_neg k3, if_neg (by omega), if_neg (by omega)]
    exact h k k1 (by omega), fun k k1 k2 k3 k4 => absurd k4 (by omega)⟩
  have e5 : (downL (swapL xs 0 n) 0 n).getD n 0 = xs.getD 0 0 := by rw [r5 n (Nat.le_refl _), hg, if_pos rfl]
  have r3' := r3 (inj_swap (by omega) (by omega) hi)
  have r4' := fun v => (r4 v).trans (has_swap (by omega) (by omega) v)
  rw [swapL_len] at r2
  have hpl : (popL xs).length = n := by unfold popL; rw [hn, List.length_take, r2]; omega
  have hpg : ∀ k, k < n → (popL xs).getD k 0 = (downL (swapL xs 0 n) 0 n).getD k 0 := by
    intro k hk
    unfold popL
    rw [hn]
    simp [List.getD_eq_getElem?_getD, List.getElem?_take, hk]
  generalize downL (swapL xs 0 n) 0 n = ys at *
  refine ⟨e5, r2, fun k k1 k2 => by rw [hpg _ (by omega), hpg _ k2]; exact r1 k k1 k2, hpl, ?_, ?_⟩
  · intro p q hp hq he
    rw [hpl] at hp hq
    rw [hpg p hp, hpg q hq] at he
    exact r3' p q (by omega) (by omega) he
  · intro u
    constructor
    · rintro ⟨p, hp, he⟩
      rw [hpl] at hp
      rw [hpg p hp] at he
      refine ⟨(r4' u).1 ⟨p, by omega, he⟩, fun hu => ?_⟩
      have := r3' p n (by omega) (by omega) (by rw [he, e5]; exact hu)
      omega
    · rintro ⟨hu, hne⟩
      obtain ⟨p, hp, he⟩ := (r4' u).2 hu
      by_cases hpn : p = n
      · subst hpn
        exact absurd (he.symm.trans e5) hne
      · exact ⟨p, by omega, by rw [hpg p (by omega)]; exact he⟩
end Go.Proofs.Ytbfkkghbkpbhlaa
