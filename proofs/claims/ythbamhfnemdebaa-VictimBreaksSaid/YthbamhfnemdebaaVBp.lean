/-
  Plain: what is left behind so many victims. No condition.
-/
import Derived.Test.YthbamhfnemdebaaWFe
import Derived.Test.YthbamhfnemdebaaVCp
namespace Go.Proofs.Ythbamhfnemdebaa
open Go.RowKit
/-- The edges behind so many victims. -/
def lf (A : List Ag) (L : List Ed) : Nat → List Ed
  | 0 => L
  | i + 1 => keepL (onE (vc A (lf A L i))) (lf A L i)
theorem lf_sub (A : List Ag) (L : List Ed) : ∀ (k i : Nat), ∀ e ∈ lf A L (i + k), e ∈ lf A L i
  | 0, _, _, h => h
  | k + 1, i, e, h => lf_sub A L k i e ((keepL_on _ _ e).1 (show e ∈ keepL (onE (vc A (lf A L (i + k)))) (lf A L (i + k)) from h)).1
theorem lf_len (A : List Ag) (L : List Ed) : ∀ i, (lf A L i).length ≤ L.length
  | 0 => Nat.le_refl _
  | i + 1 => Nat.le_trans (keepL_len _ _) (lf_len A L i)
theorem vic_drop (A : List Ag) (L : List Ed) : ∀ i, i ≤ (vic A L).length → (vic A L).drop i = vic A (lf A L i)
  | 0, _ => rfl
  | i + 1, h => by
    have ih := vic_drop A L i (by omega)
    have hne : vic A (lf A L i) ≠ [] := by
      rw [← ih]
      intro h2
      have := congrArg List.length h2
      rw [List.length_drop] at this
      simp at this
      omega
    have hc : (cyc (lf A L i)).2 = true := by
      cases hb : (cyc (lf A L i)).2 with
      | true => rfl
      | false => exact absurd (vic_no A _ hb) hne
    rw [← List.drop_drop, ih, vic_yes A _ hc]
    rfl
/-- The victim of each step. -/
theorem vic_at (A : List Ag) (L : List Ed) (i : Nat) (h : i < (vic A L).length) : (cyc (lf A L i)).2 = true ∧ (vic A L).getD i 0 = vc A (lf A L i) := by
  have hd := vic_drop A L i (by omega)
  rw [List.drop_eq_getElem_cons h] at hd
  have hc : (cyc (lf A L i)).2 = true := by
    cases hb : (cyc (lf A L i)).2 with
    | true => rfl
    | false => rw [vic_no A _ hb] at hd; cases hd
  refine ⟨hc, ?_⟩
  rw [vic_yes A _ hc] at hd
  injection hd with h1 h2
  rw [← h1]
  simp [List.getD, h]
theorem vic_end (A : List Ag) (L : List Ed) : (cyc (lf A L (vic A L).length)).2 = false := by
  have hd := vic_drop A L _ (Nat.le_refl _)
  rw [List.drop_length] at hd
  cases hb : (cyc (lf A L (vic A L).length)).2 with
  | false => rfl
  | true => rw [vic_yes A _ hb] at hd; cases hd
theorem vic_nil_iff (A : List Ag) (L : List Ed) : decide ((vic A L).length = 0) = !(cyc L).2 := by
  cases hb : (cyc L).2 with
  | false => rw [vic_no A _ hb]; rfl
  | true => rw [vic_yes A _ hb]; simp
/-- Each was in the first cycle, and none was younger in it. -/
theorem vic_in (A : List Ag) (L : List Ed) (i : Nat) (h : i < (vic A L).length) : (vic A L).getD i 0 ∈ (cyc (lf A L i)).1 ∧ ∀ c ∈ (cyc (lf A L i)).1, ageL A c ≤ ageL A ((vic A L).getD i 0) := by
  obtain ⟨hc, he⟩ := vic_at A L i h
  rw [he]
  refine ⟨vc_mem A _ hc, fun c hcm => ?_⟩
  have := chL_top A (cyc (lf A L i)).1 c hcm
  have e : vc A (lf A L i) = chL A (cyc (lf A L i)).1 := rfl
  rw [e]
  unfold yLe at this
  omega
/-- None twice. -/
theorem vic_once (A : List Ag) (L : List Ed) (k i : Nat) (hk : k < i) (h : i < (vic A L).length) : (vic A L).getD k 0 ≠ (vic A L).getD i 0 := by
  obtain ⟨hm, _⟩ := vic_in A L i h
  obtain ⟨_, hek⟩ := vic_at A L k (by omega)
  obtain ⟨t, ht⟩ := cyc_has _ _ hm
  have hs := lf_sub A L (i - (k + 1)) (k + 1) _ (by rw [show k + 1 + (i - (k + 1)) = i by omega]; exact ht)
  have := (keepL_on _ _ _).1 (show _ ∈ keepL (onE (vc A (lf A L k))) (lf A L k) from hs)
  rw [hek]
  exact fun h => this.2.1 h.symm
end Go.Proofs.Ythbamhfnemdebaa
