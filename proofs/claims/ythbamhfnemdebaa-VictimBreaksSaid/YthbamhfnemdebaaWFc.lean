/-
  Plain: the reference's cycle is the program's. No condition.
-/
import Derived.Test.YthbamhfnemdebaaWFa
namespace Go.Proofs.Ythbamhfnemdebaa
open Go.RowKit
theorem nx_sd (L : List Ed) : nxL (sdE L) = nxL L := by
  unfold nxL
  rw [sdE_self (sdE L) (sdE_pw L)]
theorem rows_pw (L : List Ed) (a : Int) : (rowL (nxL L) a).Pairwise (· < ·) := by
  rw [rowL_nx, List.pairwise_map]
  refine List.Pairwise.imp_of_mem (fun {x y} hx hy h => ?_) ((sdE_pw L).filter _)
  rw [List.mem_filter] at hx hy
  have h1 := hx.2
  have h2 := hy.2
  simp only [beq_iff_eq] at h1 h2
  simp only [ltE] at h
  omega
theorem rd_wk {N : Rw} {a b : Int} (h : Rd N a b) : ∃ k, Wk N k a b := by
  induction h with
  | one ht => exact ⟨1, .one ht⟩
  | more _ ht ih =>
    obtain ⟨k, hk⟩ := ih
    exact ⟨k + 1, hk.snoc ht⟩
/-- What far tells of one that reaches itself, and of one that does not. -/
theorem far_self {L : List Ed} {fr r : Int} (h : FarIs (sdE L) fr fr r) : (r = -1 ∧ ¬ Rd (nxL L) fr fr) ∨ (r = ((rsC (nxL L) fr).1.length : Int) ∧ Rd (nxL L) fr fr) := by
  unfold FarIs at h
  rw [nx_sd] at h
  rcases h with ⟨rfl, h1⟩ | ⟨n, rfl, h1, h2⟩
  · refine .inl ⟨rfl, fun hr => ?_⟩
    obtain ⟨k, hk⟩ := rd_wk hr
    exact h1 k hk
  · have hr := h1.rd
    refine .inr ⟨?_, hr⟩
    have h3 := shortest (rows_pw L) hr h1
    have h4 := back_ hr 0 (rs_facts _ _ hr).1
    rw [(rs_facts _ _ hr).2.1, Nat.sub_zero] at h4
    have h5 : ¬ (rsC (nxL L) fr).1.length < n := fun h => h2 _ h h4
    omega
/-- The next one of the cycle stands at its edge alone. -/
theorem far_next {L : List Ed} {fr : Int} (hr : Rd (nxL L) fr fr) (j : Nat) (hj : j + 1 < (rsC (nxL L) fr).1.length) (k : Nat) (hk : k < (sdE L).length) (hf : (sdE L)[k].from_ = (rsC (nxL L) fr).1.getD j 0)
    (hfar : FarIs (sdE L) (sdE L)[k].to fr (((rsC (nxL L) fr).1.length - 1 - j : Nat) : Int)) (hno : ∀ i (hi : i < k) r, ((sdE L)[i]'(by omega)).from_ = (rsC (nxL L) fr).1.getD j 0 → FarIs (sdE L) ((sdE L)[i]'(by omega)).to fr r → r ≠ (((rsC (nxL L) fr).1.length - 1 - j : Nat) : Int)) : (sdE L)[k].to = (rsC (nxL L) fr).1.getD (j + 1) 0 := by
  have hs := rows_pw L
  have hmem : (sdE L)[k] ∈ L := (sdE_mem L _).1 (List.getElem_mem hk)
  have ht : (sdE L)[k].to ∈ rowL (nxL L) ((rsC (nxL L) fr).1.getD j 0) := (rowL_mem _ _ _).2 (by rw [← hf]; exact hmem)
  unfold FarIs at hfar
  rw [nx_sd] at hfar
  have hw : Wk (nxL L) ((rsC (nxL L) fr).1.length - 1 - j) (sdE L)[k].to fr := by
    rcases hfar with ⟨h1, _⟩ | ⟨n, h1, h2, _⟩
    · omega
    · rw [show (rsC (nxL L) fr).1.length - 1 - j = n by omega]
      exact h2
  have hle := least hs hr j hj ht hw
  refine Int.le_antisymm (Int.not_lt.1 fun hlt => ?_) hle
  have hpar := wyN_par (nxL L) fr _ ((rs_facts _ _ hr).2.2.1 j hj)
  simp only at hpar
  rw [rowL_mem, ← sdE_mem] at hpar
  obtain ⟨i, hi, he⟩ := List.mem_iff_getElem.1 hpar
  have hik : i < k := by
    refine Nat.lt_of_not_le fun h => ?_
    rcases Nat.lt_or_eq_of_le h with h | h
    · have := List.pairwise_iff_getElem.1 (sdE_pw L) k i hk hi h
      rw [he] at this
      simp only [ltE] at this
      omega
    · subst h
      rw [he] at hlt
      simp only at hlt
      omega
  refine hno i hik _ (by rw [he]) ?_ rfl
  unfold FarIs
  rw [nx_sd, he]
  refine .inr ⟨_, rfl, ?_, fun q hq hwq => ?_⟩
  · have := back_ hr (j + 1) hj
    rwa [show (rsC (nxL L) fr).1.length - (j + 1) = (rsC (nxL L) fr).1.length - 1 - j by omega] at this
  · have := dist_ hs hr (j + 1) hj hwq
    omega
/-- And there is such an edge. -/
theorem far_has {L : List Ed} {fr : Int} (hr : Rd (nxL L) fr fr) (j : Nat) (hj : j + 1 < (rsC (nxL L) fr).1.length) : ∃ k, ∃ hk : k < (sdE L).length, (sdE L)[k].from_ = (rsC (nxL L) fr).1.getD j 0 ∧ FarIs (sdE L) (sdE L)[k].to fr (((rsC (nxL L) fr).1.length - 1 - j : Nat) : Int) := by
  have hpar := wyN_par (nxL L) fr _ ((rs_facts _ _ hr).2.2.1 j hj)
  simp only at hpar
  rw [rowL_mem, ← sdE_mem] at hpar
  obtain ⟨i, hi, he⟩ := List.mem_iff_getElem.1 hpar
  refine ⟨i, hi, by rw [he], ?_⟩
  unfold FarIs
  rw [nx_sd, he]
  refine .inr ⟨_, rfl, ?_, fun q hq hwq => ?_⟩
  · have := back_ hr (j + 1) hj
    rwa [show (rsC (nxL L) fr).1.length - (j + 1) = (rsC (nxL L) fr).1.length - 1 - j by omega] at this
  · have := dist_ (rows_pw L) hr (j + 1) hj hwq
    omega
end Go.Proofs.Ythbamhfnemdebaa
