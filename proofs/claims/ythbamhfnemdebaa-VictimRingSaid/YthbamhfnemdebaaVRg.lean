/-
  Plain: a ring has one victim, the youngest. No condition.
-/
import Derived.Test.YthbamhfnemdebaaVLv
namespace Go.Proofs.Ythbamhfnemdebaa
open Go.RowKit
/-- The first k edges of a ring of n; k ages; the youngest of the first k. -/
def rg (n k : Nat) : List Ed := (List.range k).map fun i : Nat => ⟨(i : Int), (((i + 1) % n : Nat) : Int)⟩
def kn (ag : Nat → Int) (k : Nat) : List Ag := (List.range k).map fun i : Nat => ⟨(i : Int), ag i⟩
def wn (ag : Nat → Int) : Nat → Nat
  | 0 => 0
  | k + 1 => if ag (wn ag k) ≤ ag k then k else wn ag k
def ints (n : Nat) : List Int := (List.range n).map fun i : Nat => (i : Int)
theorem rg_len (n k : Nat) : (rg n k).length = k := by simp [rg]
theorem kn_len (ag : Nat → Int) (k : Nat) : (kn ag k).length = k := by simp [kn]
theorem rg_succ (n k : Nat) : rg n (k + 1) = rg n k ++ [⟨(k : Int), (((k + 1) % n : Nat) : Int)⟩] := by simp [rg, List.range_succ]
theorem kn_succ (ag : Nat → Int) (k : Nat) : kn ag (k + 1) = kn ag k ++ [⟨(k : Int), ag k⟩] := by simp [kn, List.range_succ]
theorem kn_at (ag : Nat → Int) (k i : Nat) (h : i < k) : (kn ag k).getD i default = ⟨(i : Int), ag i⟩ := by simp [kn, List.getD, h]
theorem wn_le (ag : Nat → Int) : ∀ k, wn ag k ≤ k - 1
  | 0 => Nat.le_refl _
  | k + 1 => by
    have := wn_le ag k
    unfold wn
    split <;> omega
theorem ageL_kn (ag : Nat → Int) : ∀ (k i : Nat), i < k → ageL (kn ag k) (i : Int) = ag i
  | 0, _, h => by omega
  | k + 1, i, h => by
    unfold ageL
    rw [kn_succ, List.find?_append]
    by_cases hi : i < k
    · have ih := ageL_kn ag k i hi
      unfold ageL at ih
      have hs : ((kn ag k).find? fun a => a.txn == (i : Int)).isSome := by
        rw [List.find?_isSome]
        exact ⟨⟨(i : Int), ag i⟩, by unfold kn; exact List.mem_map.2 ⟨i, List.mem_range.2 hi, rfl⟩, by simp⟩
      obtain ⟨x, hx⟩ := Option.isSome_iff_exists.1 hs
      rw [hx] at ih ⊢
      exact ih
    · obtain rfl : i = k := by omega
      have hn : ((kn ag i).find? fun a => a.txn == (i : Int)) = none := by
        rw [List.find?_eq_none]
        intro x hx
        simp only [kn, List.mem_map, List.mem_range] at hx
        obtain ⟨j, hj, rfl⟩ := hx
        simp
        omega
      rw [hn]
      simp
theorem maxL_append (c : Int → Int → Int) (xs ys : List Int) (m : Int) : maxL c (xs ++ ys) m = maxL c ys (maxL c xs m) := List.foldl_append ..
theorem ints_succ (k : Nat) : ints (k + 1) = ints k ++ [(k : Int)] := by simp [ints, List.range_succ]
/-- The youngest of a ring. -/
theorem ch_ring (ag : Nat → Int) (n : Nat) : ∀ k, k < n → chL (kn ag n) (ints (k + 1)) = (wn ag (k + 1) : Int)
  | 0, _ => by simp [chL, ints, gtL, maxL, wn]
  | k + 1, h => by
    have ih := ch_ring ag n k (by omega)
    obtain ⟨xs, hxs⟩ : ∃ xs, ints (k + 1) = 0 :: xs := by
      refine ⟨(List.range k).map fun i : Nat => ((i + 1 : Nat) : Int), ?_⟩
      unfold ints
      rw [List.range_succ_eq_map, List.map_cons, List.map_map]
      rfl
    rw [ints_succ, hxs]
    rw [hxs] at ih
    have e : chL (kn ag n) ((0 :: xs) ++ [((k + 1 : Nat) : Int)]) = maxL (cmpY (kn ag n)) [((k + 1 : Nat) : Int)] (chL (kn ag n) (0 :: xs)) := maxL_append ..
    rw [e, ih]
    have hw := wn_le ag (k + 1)
    have ha1 := ageL_kn ag n (k + 1) h
    have ha2 := ageL_kn ag n (wn ag (k + 1)) (by omega)
    have e2 : wn ag (k + 1 + 1) = if ag (wn ag (k + 1)) ≤ ag (k + 1) then k + 1 else wn ag (k + 1) := rfl
    have e3 : maxL (cmpY (kn ag n)) [((k + 1 : Nat) : Int)] (wn ag (k + 1) : Int) = if cmpY (kn ag n) ((k + 1 : Nat) : Int) (wn ag (k + 1) : Int) > 0 then ((k + 1 : Nat) : Int) else (wn ag (k + 1) : Int) := rfl
    rw [e2, e3]
    unfold cmpY
    rw [ha1, ha2]
    generalize wn ag (k + 1) = m at *
    unfold Lib.compareInt
    by_cases h1 : ag m ≤ ag (k + 1)
    · rw [if_pos h1]
      have h2 : ¬ ag (k + 1) < ag m := by omega
      have h4 : ¬ (((k + 1 : Nat) : Int) < (m : Int)) := by omega
      have h5 : (m : Int) < ((k + 1 : Nat) : Int) := by omega
      have h6 : ¬ ((k : Int) + 1 < (m : Int)) := by omega
      have h7 : (m : Int) < (k : Int) + 1 := by omega
      by_cases h3 : ag m < ag (k + 1)
      · simp [h2, h3]
      · simp [h2, h3, h6, h7]
    · rw [if_neg h1]
      have h2 : ag (k + 1) < ag m := by omega
      simp [h2]
theorem rg_pw (n k : Nat) : (rg n k).Pairwise ltE := by
  unfold rg
  rw [List.pairwise_map]
  exact List.pairwise_lt_range.imp fun h => by simp only [ltE]; omega
theorem rgt_pw (n : Nat) (t : Int) (h : n ≤ 12) : (rg n n ++ [(⟨100, t⟩ : Ed)]).Pairwise ltE := by
  rw [List.pairwise_append]
  refine ⟨rg_pw n n, List.pairwise_singleton _ _, fun x hx y hy => ?_⟩
  simp only [rg, List.mem_map, List.mem_range] at hx
  obtain ⟨i, hi, rfl⟩ := hx
  simp only [List.mem_singleton] at hy
  subst hy
  simp only [ltE]
  omega
theorem cyc_sorted (L : List Ed) (h : L.Pairwise ltE) : cyc L = cycG (L.foldl addE []) L := by
  unfold cyc nxL
  rw [sdE_self L h]
theorem ring_dec : ∀ n, n < 13 → 0 < n → cycG ((rg n n).foldl addE []) (rg n n) = (ints n, true) := by decide +kernel
theorem ringt_dec : ∀ n, n < 13 → ∀ t, t < n → cycG ((rg n n ++ [(⟨100, (t : Int)⟩ : Ed)]).foldl addE []) (rg n n ++ [(⟨100, (t : Int)⟩ : Ed)]) = (ints n, true) := by decide +kernel
/-- Without one of a ring nobody reaches itself. -/
theorem ring_cut (n c : Nat) (hc : c < n) (L : List Ed) (h : ∀ e ∈ L, (∃ i, i < n ∧ e = ⟨(i : Int), (((i + 1) % n : Nat) : Int)⟩ ∧ i ≠ c ∧ (i + 1) % n ≠ c) ∨ e.from_ = 100 ∧ 0 ≤ e.to ∧ e.to < n) (hn : n ≤ 12) : (cyc L).2 = false := by
  have key : ∀ a b, Rd (nxL L) a b → (if a = 100 then (-1 : Int) else if a > c then a - c else a + n - c) < (if b = 100 then (-1 : Int) else if b > c then b - c else b + n - c) ∧ 0 ≤ b ∧ b < n := by
    have step : ∀ a b, b ∈ rowL (nxL L) a → (if a = 100 then (-1 : Int) else if a > c then a - c else a + n - c) < (if b = 100 then (-1 : Int) else if b > c then b - c else b + n - c) ∧ 0 ≤ b ∧ b < n := by
      intro a b hb
      rw [rowL_mem] at hb
      rcases h _ hb with ⟨i, hi, he, h1, h2⟩ | ⟨h1, h2, h3⟩
      · injection he with e1 e2
        subst e1 e2
        by_cases hl : i + 1 < n
        · rw [Nat.mod_eq_of_lt hl] at h2 ⊢
          split <;> split <;> (try split) <;> (try split) <;> omega
        · have hm : (i + 1) % n = 0 := by rw [show i + 1 = n by omega, Nat.mod_self]
          rw [hm] at h2 ⊢
          split <;> split <;> (try split) <;> (try split) <;> omega
      · simp only at h1 h2 h3
        subst h1
        split <;> split <;> (try split) <;> (try split) <;> omega
    intro a b hr
    induction hr with
    | one ht => exact step _ _ ht
    | more _ ht ih =>
      have h2 := step _ _ ht
      exact ⟨by omega, h2.2⟩
  rw [cyc_none L fun e _ hr => by have := (key _ _ hr).1; omega]
theorem vic_ring (ag : Nat → Int) (n : Nat) (h0 : 0 < n) (h12 : n ≤ 12) : vic (kn ag n) (rg n n) = [(wn ag n : Int)] := by
  have hc : cyc (rg n n) = (ints n, true) := by rw [cyc_sorted _ (rg_pw n n)]; exact ring_dec n (by omega) h0
  have hv : vc (kn ag n) (rg n n) = (wn ag n : Int) := by
    unfold vc
    rw [hc]
    have := ch_ring ag n (n - 1) (by omega)
    rwa [show n - 1 + 1 = n by omega] at this
  rw [vic_yes _ _ (by rw [hc]), hv, vic_no]
  have hw := wn_le ag n
  refine ring_cut n (wn ag n) (by omega) _ (fun e he => ?_) h12
  rw [keepL_on] at he
  obtain ⟨h1, h2, h3⟩ := he
  simp only [rg, List.mem_map, List.mem_range] at h1
  obtain ⟨i, hi, rfl⟩ := h1
  exact .inl ⟨i, hi, rfl, fun h => h2 (by rw [h]), fun h => h3 (by rw [← h])⟩
theorem vic_ringt (ag : Nat → Int) (n t : Nat) (ht : t < n) (h12 : n ≤ 12) : vic (kn ag n) (rg n n ++ [(⟨100, (t : Int)⟩ : Ed)]) = [(wn ag n : Int)] := by
  have hc : cyc (rg n n ++ [(⟨100, (t : Int)⟩ : Ed)]) = (ints n, true) := by rw [cyc_sorted _ (rgt_pw n t h12)]; exact ringt_dec n (by omega) t ht
  have hv : vc (kn ag n) (rg n n ++ [(⟨100, (t : Int)⟩ : Ed)]) = (wn ag n : Int) := by
    unfold vc
    rw [hc]
    have := ch_ring ag n (n - 1) (by omega)
    rwa [show n - 1 + 1 = n by omega] at this
  rw [vic_yes _ _ (by rw [hc]), hv, vic_no]
  have hw := wn_le ag n
  refine ring_cut n (wn ag n) (by omega) _ (fun e he => ?_) h12
  rw [keepL_on] at he
  obtain ⟨h1, h2, h3⟩ := he
  rcases List.mem_append.1 h1 with h1 | h1
  · simp only [rg, List.mem_map, List.mem_range] at h1
    obtain ⟨i, hi, rfl⟩ := h1
    exact .inl ⟨i, hi, rfl, fun h => h2 (by rw [h]), fun h => h3 (by rw [← h])⟩
  · simp only [List.mem_singleton] at h1
    subst h1
    exact .inr ⟨rfl, by simp only; omega, by simp only; omega⟩
end Go.Proofs.Ythbamhfnemdebaa
