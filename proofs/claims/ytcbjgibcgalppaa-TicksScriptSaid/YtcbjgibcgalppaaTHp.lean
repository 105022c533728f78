/-
  Heaps of values under an order, as lists: what up, down, push, pop and remove make of them (plain: no program). No condition beside the order's laws.
-/
import Derived.Test.YtcbjgibcgalppaaBase
namespace Go.Proofs.Ytcbjgibcgalppaa
/-- An order: le a b is 'lt b a = false'. -/
structure Ord1 {α : Type} (lt : α → α → Bool) : Prop where
  refl : ∀ a, lt a a = false
  trans : ∀ a b c, lt b a = false → lt c b = false → lt c a = false
  asym : ∀ a b, lt a b = true → lt b a = false
section
variable {α : Type} [Inhabited α]
abbrev gt_ (xs : List α) (k : Nat) : α := xs.getD k default
def swapL (xs : List α) (i j : Nat) : List α := (xs.set i (gt_ xs j)).set j (gt_ xs i)
theorem swapL_len (xs : List α) (i j : Nat) : (swapL xs i j).length = xs.length := by simp [swapL]
theorem getD_swap (xs : List α) (i j k : Nat) (hi : i < xs.length) (hj : j < xs.length) : gt_ (swapL xs i j) k = if k = j then gt_ xs i else if k = i then gt_ xs j else gt_ xs k := by
  unfold swapL gt_
  simp only [List.getD_eq_getElem?_getD]
  by_cases h1 : k = j
  · subst h1
    rw [if_pos rfl, List.getElem?_set_self (by simpa using hj)]
    rfl
  · rw [if_neg h1, List.getElem?_set_ne (fun e => h1 e.symm)]
    by_cases h2 : k = i
    · subst h2
      rw [if_pos rfl, List.getElem?_set_self hi]
      rfl
    · rw [if_neg h2, List.getElem?_set_ne (fun e => h2 e.symm)]
theorem swapL_perm [DecidableEq α] (xs : List α) (i j : Nat) (hi : i < xs.length) (hj : j < xs.length) : (swapL xs i j).Perm xs := by
  rw [List.perm_iff_count]
  intro a
  unfold swapL
  have e1 : gt_ xs i = xs[i] := by simp [gt_, List.getD_eq_getElem?_getD, hi]
  have e2 : gt_ xs j = xs[j] := by simp [gt_, List.getD_eq_getElem?_getD, hj]
  rw [e1, e2, List.count_set (by simpa using hj), List.count_set hi, List.getElem_set]
  have c1 : (if xs[i] == a then 1 else 0) ≤ xs.count a := by
    split
    · rename_i h
      have : xs[i] = a := by simpa using h
      exact List.count_pos_iff.2 (this ▸ List.getElem_mem hi)
    · omega
  rw [ite_self]
  generalize (if xs[i] == a then 1 else 0) = p at *
  generalize (if xs[j] == a then 1 else 0) = q at *
  omega
variable (lt : α → α → Bool)
def upL (xs : List α) (j : Nat) : List α :=
  if j = 0 then xs
  else if lt (gt_ xs j) (gt_ xs ((j - 1) / 2)) = true then upL (swapL xs ((j - 1) / 2) j) ((j - 1) / 2) else xs
termination_by j
decreasing_by omega
def kidL (xs : List α) (i n : Nat) : Nat := if 2 * i + 2 < n ∧ lt (gt_ xs (2 * i + 2)) (gt_ xs (2 * i + 1)) = true then 2 * i + 2 else 2 * i + 1
theorem kidL_gt (xs : List α) (i n : Nat) : i < kidL lt xs i n := by unfold kidL; split <;> omega
theorem kidL_lt (xs : List α) (i n : Nat) (h : 2 * i + 1 < n) : kidL lt xs i n < n := by unfold kidL; split <;> omega
def downL (xs : List α) (i n : Nat) : List α :=
  if _h : 2 * i + 1 < n then
    if lt (gt_ xs (kidL lt xs i n)) (gt_ xs i) = true then downL (swapL xs i (kidL lt xs i n)) (kidL lt xs i n) n else xs
  else xs
termination_by n - i
decreasing_by have := kidL_gt lt xs i n; omega
/-- Does down move what stands there? -/
def movesL (xs : List α) (i n : Nat) : Bool := decide (2 * i + 1 < n) && lt (gt_ xs (kidL lt xs i n)) (gt_ xs i)
theorem down_still (xs : List α) (i n : Nat) (h : movesL lt xs i n = false) : downL lt xs i n = xs := by
  rw [downL]
  unfold movesL at h
  split
  · rename_i h1
    rw [decide_eq_true h1, Bool.true_and] at h
    rw [h]
    simp
  · rfl
def HeapN (xs : List α) (n : Nat) : Prop := ∀ k, 0 < k → k < n → lt (gt_ xs k) (gt_ xs ((k - 1) / 2)) = false
def UpOK (xs : List α) (n j : Nat) : Prop := (∀ k, 0 < k → k < n → k ≠ j → lt (gt_ xs k) (gt_ xs ((k - 1) / 2)) = false) ∧ (∀ k, 0 < k → k < n → (k - 1) / 2 = j → 0 < j → lt (gt_ xs k) (gt_ xs ((j - 1) / 2)) = false)
def DownOK (xs : List α) (n i : Nat) : Prop := (∀ k, 0 < k → k < n → (k - 1) / 2 ≠ i → lt (gt_ xs k) (gt_ xs ((k - 1) / 2)) = false) ∧ (∀ k, 0 < k → k < n → (k - 1) / 2 = i → 0 < i → lt (gt_ xs k) (gt_ xs ((i - 1) / 2)) = false)
/-- In order but for what stands at one place. -/
def HoleOK (xs : List α) (n i : Nat) : Prop := (∀ k, 0 < k → k < n → k ≠ i → (k - 1) / 2 ≠ i → lt (gt_ xs k) (gt_ xs ((k - 1) / 2)) = false) ∧ (∀ k, 0 < k → k < n → (k - 1) / 2 = i → 0 < i → lt (gt_ xs k) (gt_ xs ((i - 1) / 2)) = false)
variable {lt}
theorem up_all [DecidableEq α] (O : Ord1 lt) (n : Nat) : ∀ (j : Nat) (xs : List α), j < n → n ≤ xs.length → UpOK lt xs n j →
    HeapN lt (upL lt xs j) n ∧ (upL lt xs j).Perm xs ∧ (∀ k, n ≤ k → gt_ (upL lt xs j) k = gt_ xs k) := by
  intro j
  induction j using Nat.strongRecOn with
  | ind j ih =>
    intro xs hj hn h
    rw [upL]
    split
    · rename_i h0
      subst h0
      exact ⟨fun k h1 h2 => h.1 k h1 h2 (by omega), List.Perm.refl _, fun _ _ => rfl⟩
    · rename_i h0
      split
      · rename_i hlt
        have hp : (j - 1) / 2 < j := by omega
        have hg := fun k => getD_swap xs ((j - 1) / 2) j k (by omega) (by omega)
        generalize hq : (j - 1) / 2 = p at *
        obtain ⟨r1, r2, r3⟩ := ih p hp (swapL xs p j) (by omega) (by rw [swapL_len]; exact hn) (by
          constructor
          · intro k h1 h2 h3
            rw [hg, hg]
            by_cases hkj : k = j
            · subst hkj
              rw [hq, if_pos rfl, if_neg (by omega : ¬ p = k), if_pos rfl]
              exact O.asym _ _ hlt
            · rw [if_neg hkj, if_neg h3]
              by_cases hpp : (k - 1) / 2 = p
              · rw [hpp, if_neg (by omega), if_pos rfl]
                have := h.1 k h1 h2 hkj
                rw [hpp] at this
                exact O.trans _ _ _ (O.asym _ _ hlt) this
              · by_cases hpj : (k - 1) / 2 = j
                · rw [if_pos hpj]
                  have := h.2 k h1 h2 hpj (by omega)
                  rw [hq] at this
                  exact this
                · rw [if_neg hpj, if_neg hpp]
                  exact h.1 k h1 h2 hkj
          · intro k h1 h2 h3 h4
            have hpp : (p - 1) / 2 < p := by omega
            rw [hg, hg, if_neg (by omega : ¬ (p - 1) / 2 = j), if_neg (by omega : ¬ (p - 1) / 2 = p)]
            have a1 := h.1 p h4 (by omega) (by omega)
            by_cases hkj : k = j
            · rw [if_pos hkj]
              exact a1
            · rw [if_neg hkj, if_neg (by omega)]
              have a2 := h.1 k h1 h2 hkj
              rw [h3] at a2
              exact O.trans _ _ _ a1 a2)
        exact ⟨r1, r2.trans (swapL_perm xs p j (by omega) (by omega)), fun k hk => by rw [r3 k hk, hg, if_neg (by omega), if_neg (by omega)]⟩
      · rename_i hge
        refine ⟨fun k h1 h2 => ?_, List.Perm.refl _, fun _ _ => rfl⟩
        by_cases hkj : k = j
        · subst hkj
          simpa using hge
        · exact h.1 k h1 h2 hkj
theorem kidL_min (O : Ord1 lt) (xs : List α) (i n k : Nat) (h1 : 0 < k) (h2 : k < n) (h3 : (k - 1) / 2 = i) : lt (gt_ xs k) (gt_ xs (kidL lt xs i n)) = false := by
  have : k = 2 * i + 1 ∨ k = 2 * i + 2 := by omega
  unfold kidL
  split
  · rename_i h
    rcases this with rfl | rfl
    · exact O.asym _ _ h.2
    · exact O.refl _
  · rename_i h
    rcases this with rfl | rfl
    · exact O.refl _
    · have : ¬ lt (gt_ xs (2 * i + 2)) (gt_ xs (2 * i + 1)) = true := fun hh => h ⟨h2, hh⟩
      simpa using this
theorem down_all [DecidableEq α] (O : Ord1 lt) (n : Nat) : ∀ (d i : Nat) (xs : List α), n - i = d → n ≤ xs.length → DownOK lt xs n i →
    HeapN lt (downL lt xs i n) n ∧ (downL lt xs i n).Perm xs ∧ (∀ k, n ≤ k → gt_ (downL lt xs i n) k = gt_ xs k) := by
  intro d
  induction d using Nat.strongRecOn with
  | ind d ih =>
    intro i xs hd hn h
    rw [downL]
    split
    · rename_i h1
      have hkg := kidL_gt lt xs i n
      have hkl := kidL_lt lt xs i n h1
      have hkp : (kidL lt xs i n - 1) / 2 = i := by unfold kidL; split <;> omega
      have hmin := kidL_min O xs i n
      split
      · rename_i hlt
        have hg := fun k => getD_swap xs i (kidL lt xs i n) k (by omega) (by omega)
        generalize kidL lt xs i n = j at *
        obtain ⟨r1, r2, r5⟩ := ih (n - j) (by omega) j (swapL xs i j) rfl (by rw [swapL_len]; exact hn) (by
          constructor
          · intro k k1 k2 k3
            rw [hg, hg, if_neg k3]
            by_cases hkj : k = j
            · subst hkj
              rw [hkp, if_pos rfl, if_pos rfl]
              exact O.asym _ _ hlt
            · rw [if_neg hkj]
              by_cases hki : k = i
              · subst hki
                rw [if_pos rfl, if_neg (by omega)]
                exact h.2 j (by omega) hkl hkp k1
              · rw [if_neg hki]
                by_cases hpi : (k - 1) / 2 = i
                · rw [if_pos hpi]
                  exact hmin k k1 k2 hpi
                · rw [if_neg hpi]
                  exact h.1 k k1 k2 hpi
          · intro k k1 k2 k3 k4
            rw [hg, hg, hkp, if_neg (by omega), if_neg (by omega), if_neg (by omega), if_pos rfl]
            have := h.1 k k1 k2 (by omega)
            rw [k3] at this
            exact this)
        exact ⟨r1, r2.trans (swapL_perm xs i j (by omega) (by omega)), fun k hk => by rw [r5 k hk, hg, if_neg (by omega), if_neg (by omega)]⟩
      · rename_i hge
        refine ⟨fun k k1 k2 => ?_, List.Perm.refl _, fun _ _ => rfl⟩
        by_cases hpi : (k - 1) / 2 = i
        · have := hmin k k1 k2 hpi
          rw [hpi]
          exact O.trans _ _ _ (by simpa using hge) this
        · exact h.1 k k1 k2 hpi
    · rename_i h1
      exact ⟨fun k k1 k2 => h.1 k k1 k2 (by omega), List.Perm.refl _, fun _ _ => rfl⟩
theorem heap_min (O : Ord1 lt) (xs : List α) (n : Nat) (h : HeapN lt xs n) : ∀ k, k < n → lt (gt_ xs k) (gt_ xs 0) = false := by
  intro k
  induction k using Nat.strongRecOn with
  | ind k ih =>
    intro hk
    by_cases h0 : k = 0
    · subst h0; exact O.refl _
    · exact O.trans _ _ _ (ih ((k - 1) / 2) (by omega) (by omega)) (h k (by omega) hk)
variable (lt)
/-- A push. -/
def pushL (xs : List α) (v : α) : List α := upL lt (xs ++ [v]) xs.length
/-- One taken from a place. -/
def fixL (xs : List α) (i n : Nat) : List α := if movesL lt xs i n = true then downL lt xs i n else upL lt xs i
def remL (xs : List α) (i : Nat) : List α :=
  if i = xs.length - 1 then xs.take (xs.length - 1) else (fixL lt (swapL xs i (xs.length - 1)) i (xs.length - 1)).take (xs.length - 1)
def popL (xs : List α) : List α := (downL lt (swapL xs 0 (xs.length - 1)) 0 (xs.length - 1)).take (xs.length - 1)
variable {lt}
theorem push_all [DecidableEq α] (O : Ord1 lt) (xs : List α) (v : α) (h : HeapN lt xs xs.length) : HeapN lt (pushL lt xs v) (pushL lt xs v).length ∧ (pushL lt xs v).Perm (v :: xs) := by
  have hg : ∀ k, k < xs.length → gt_ (xs ++ [v]) k = gt_ xs k := fun k hk => by unfold gt_; rw [List.getD_eq_getElem?_getD, List.getD_eq_getElem?_getD, List.getElem?_append_left hk]
  have hl : (xs ++ [v]).length = xs.length + 1 := by simp
  obtain ⟨r1, r2, _⟩ := up_all O (xs.length + 1) xs.length (xs ++ [v]) (by omega) (by omega) ⟨fun k k1 k2 k3 => by rw [hg _ (by omega), hg _ (by omega)]; exact h k k1 (by omega), fun k k1 k2 k3 k4 => by omega⟩
  have h2 : (pushL lt xs v).Perm (v :: xs) := r2.trans (List.perm_append_comm (l₁ := xs) (l₂ := [v]))
  exact ⟨by rw [h2.length_eq]; exact r1, h2⟩
/-- What stands in front of the last one. -/
theorem take_last [DecidableEq α] {zs : List α} {n : Nat} (hn : zs.length = n + 1) : zs.Perm (gt_ zs n :: zs.take n) := by
  have h1 : zs = zs.take n ++ [gt_ zs n] := by
    conv => lhs; rw [← List.take_append_drop n zs]
    congr 1
    rw [List.drop_eq_getElem_cons (by omega), List.drop_eq_nil_of_le (by omega)]
    simp [gt_, List.getD_eq_getElem?_getD, show n < zs.length by omega]
  conv => lhs; rw [h1]
  exact List.perm_append_comm (l₁ := zs.take n) (l₂ := [gt_ zs n])
theorem heap_take {zs : List α} {n : Nat} (hn : zs.length = n + 1) (h : HeapN lt zs n) : HeapN lt (zs.take n) (zs.take n).length := by
  have hl : (zs.take n).length = n := by rw [List.length_take]; omega
  have hg : ∀ k, k < n → gt_ (zs.take n) k = gt_ zs k := fun k hk => by simp [gt_, List.getD_eq_getElem?_getD, hk]
  rw [hl]
  intro k k1 k2
  rw [hg _ k2, hg _ (by omega)]
  exact h k k1 k2
theorem pop_all [DecidableEq α] (O : Ord1 lt) (xs : List α) (n : Nat) (hl : xs.length = n + 1) (h : HeapN lt xs xs.length) :
    gt_ (downL lt (swapL xs 0 n) 0 n) n = gt_ xs 0 ∧ (downL lt (swapL xs 0 n) 0 n).length = n + 1 ∧ popL lt xs = (downL lt (swapL xs 0 n) 0 n).take n ∧
    HeapN lt (popL lt xs) (popL lt xs).length ∧ xs.Perm (gt_ xs 0 :: popL lt xs) := by
  have hg := fun k => getD_swap xs 0 n k (by omega) (by omega)
  have e0 : popL lt xs = (downL lt (swapL xs 0 n) 0 n).take n := by unfold popL; rw [hl]; rfl
  obtain ⟨r1, r2, r5⟩ := down_all O n (n - 0) 0 (swapL xs 0 n) rfl (by rw [swapL_len]; omega) ⟨fun k k1 k2 k3 => by
    rw [hg, hg, if_neg (by omega), if_neg (by omega), if_neg (by omega), if_neg k3]
    exact h k k1 (by omega), fun k k1 k2 k3 k4 => absurd k4 (by omega)⟩
  have hp := r2.trans (swapL_perm xs 0 n (by omega) (by omega))
  have e5 : gt_ (downL lt (swapL xs 0 n) 0 n) n = gt_ xs 0 := by rw [r5 n (Nat.le_refl _), hg, if_pos rfl]
  have hlen : (downL lt (swapL xs 0 n) 0 n).length = n + 1 := by rw [hp.length_eq, hl]
  refine ⟨e5, hlen, e0, by rw [e0]; exact heap_take hlen r1, ?_⟩
  rw [e0, ← e5]
  exact hp.symm.trans (take_last hlen)
theorem fix_all [DecidableEq α] (O : Ord1 lt) (xs : List α) (i n : Nat) (hi : i < n) (hn : n ≤ xs.length) (h : HoleOK lt xs n i) :
    HeapN lt (fixL lt xs i n) n ∧ (fixL lt xs i n).Perm xs ∧ (∀ k, n ≤ k → gt_ (fixL lt xs i n) k = gt_ xs k) := by
  unfold fixL
  split
  · rename_i hm
    unfold movesL at hm
    rw [Bool.and_eq_true, decide_eq_true_iff] at hm
    have hkp : (kidL lt xs i n - 1) / 2 = i := by unfold kidL; split <;> omega
    have hkg := kidL_gt lt xs i n
    refine down_all O n _ i xs rfl hn ⟨fun k k1 k2 k3 => ?_, h.2⟩
    by_cases hki : k = i
    · subst hki
      have := h.2 (kidL lt xs k n) (by omega) (kidL_lt lt xs k n hm.1) hkp k1
      exact O.trans _ _ _ this (O.asym _ _ hm.2)
    · exact h.1 k k1 k2 hki k3
  · rename_i hm
    refine up_all O n i xs hi hn ⟨fun k k1 k2 k3 => ?_, h.2⟩
    by_cases hpi : (k - 1) / 2 = i
    · have hmin := kidL_min O xs i n k k1 k2 hpi
      have hm' : movesL lt xs i n = false := by simpa using hm
      unfold movesL at hm'
      rw [decide_eq_true (show 2 * i + 1 < n by omega), Bool.true_and] at hm'
      rw [hpi]
      exact O.trans _ _ _ hm' hmin
    · exact h.1 k k1 k2 k3 hpi
theorem rem_all [DecidableEq α] (O : Ord1 lt) (xs : List α) (i n : Nat) (hl : xs.length = n + 1) (hi : i < n + 1) (h : HeapN lt xs xs.length) :
    HeapN lt (remL lt xs i) (remL lt xs i).length ∧ xs.Perm (gt_ xs i :: remL lt xs i) ∧
    (i ≠ n → gt_ (fixL lt (swapL xs i n) i n) n = gt_ xs i ∧ (fixL lt (swapL xs i n) i n).length = n + 1 ∧ remL lt xs i = (fixL lt (swapL xs i n) i n).take n) ∧ (i = n → remL lt xs i = xs.take n) := by
  have hn1 : xs.length - 1 = n := by omega
  by_cases hin : i = n
  · subst hin
    have e0 : remL lt xs i = xs.take i := by unfold remL; rw [hn1, if_pos rfl]
    rw [e0]
    exact ⟨heap_take hl fun k k1 k2 => h k k1 (by omega), take_last hl, fun hh => absurd rfl hh, fun _ => rfl⟩
  · have e0 : remL lt xs i = (fixL lt (swapL xs i n) i n).take n := by unfold remL; rw [hn1, if_neg hin]
    have hg := fun k => getD_swap xs i n k (by omega) (by omega)
    obtain ⟨r1, r2, r3⟩ := fix_all O (swapL xs i n) i n (by omega) (by rw [swapL_len]; omega) ⟨fun k k1 k2 k3 k4 => by
      rw [hg, hg, if_neg (by omega), if_neg k3, if_neg (by omega), if_neg k4]
      exact h k k1 (by omega), fun k k1 k2 k3 k4 => by
      rw [hg, hg, if_neg (by omega), if_neg (by omega), if_neg (by omega), if_neg (by omega)]
      have a1 := h k k1 (by omega)
      rw [k3] at a1
      exact O.trans _ _ _ (h i k4 (by omega)) a1⟩
    have hp := r2.trans (swapL_perm xs i n (by omega) (by omega))
    have e5 : gt_ (fixL lt (swapL xs i n) i n) n = gt_ xs i := by rw [r3 n (Nat.le_refl _), hg, if_pos rfl]
    have hlen : (fixL lt (swapL xs i n) i n).length = n + 1 := by rw [hp.length_eq, hl]
    refine ⟨by rw [e0]; exact heap_take hlen r1, ?_, fun _ => ⟨e5, hlen, e0⟩, fun hh => absurd hh hin⟩
    rw [e0, ← e5]
    exact hp.symm.trans (take_last hlen)
end
end Go.Proofs.Ytcbjgibcgalppaa
