/-
  Plain: the way that Cycle tells is a shortest one, and at each step the smallest next one. No condition.
-/
import Derived.Test.YthbamhfnemdebaaWBf
namespace Go.Proofs.Ythbamhfnemdebaa
open Go.RowKit
/-- A walk of so many edges. -/
inductive Wk (N : Rw) : Nat → Int → Int → Prop
  | one {a b : Int} : b ∈ rowL N a → Wk N 1 a b
  | more {n : Nat} {a t b : Int} : t ∈ rowL N a → Wk N n t b → Wk N (n + 1) a b
theorem Wk.pos {N : Rw} {n : Nat} {a b : Int} (h : Wk N n a b) : 0 < n := by
  cases h <;> omega
theorem Wk.snoc {N : Rw} {n : Nat} {a b c : Int} (h : Wk N n a b) (hc : c ∈ rowL N b) : Wk N (n + 1) a c := by
  induction h with
  | one hb => exact .more hb (.one hc)
  | more ht _ ih => exact .more ht (ih hc)
theorem Wk.app {N : Rw} {n k : Nat} {a b c : Int} (h : Wk N n a b) (h2 : Wk N k b c) : Wk N (n + k) a c := by
  induction h with
  | one hb => rw [Nat.add_comm]; exact .more hb h2
  | more ht _ ih =>
    rename_i n _ _ _ _
    rw [show n + 1 + k = n + k + 1 by omega]
    exact .more ht (ih h2)
theorem Wk.rd {N : Rw} {n : Nat} {a b : Int} (h : Wk N n a b) : Rd N a b := by
  induction h with
  | one hb => exact .one hb
  | more ht _ ih => exact (Rd.one ht).trans ih
/-- The last edge of a walk. -/
theorem Wk.last {N : Rw} {n : Nat} {a b : Int} (h : Wk N n a b) : (n = 1 ∧ b ∈ rowL N a) ∨ ∃ y, 1 < n ∧ Wk N (n - 1) a y ∧ b ∈ rowL N y := by
  induction h with
  | one hb => exact .inl ⟨rfl, hb⟩
  | @more n a t b ht h ih =>
    right
    rcases ih with ⟨rfl, hb⟩ | ⟨y, h1, h2, h3⟩
    · exact ⟨t, by omega, .one ht, hb⟩
    · refine ⟨y, by omega, ?_, h3⟩
      rw [show n + 1 - 1 = n - 1 + 1 by omega]
      exact .more ht h2
theorem rs_facts (N : Rw) (fr : Int) (hr : Rd N fr fr) : 0 < (rsC N fr).1.length ∧ (rsC N fr).1.getD 0 0 = fr ∧ (∀ j, j + 1 < (rsC N fr).1.length → ((rsC N fr).1.getD (j + 1) 0, (rsC N fr).1.getD j 0) ∈ wyN N fr) ∧
    (fr, (rsC N fr).1.getD ((rsC N fr).1.length - 1) 0) ∈ wyN N fr ∧ ∀ j, 0 < j → j < (rsC N fr).1.length → (rsC N fr).1.getD j 0 ≠ fr := by
  have hk := (wyN_iff N fr fr).2 hr
  obtain ⟨h1, h2, h3, _⟩ := path_facts (wyN_nodup N fr) (wyN_tr N fr) _ _ (onB_start hk)
  have hst := stepB_mem (wyN_nodup N fr) hk
  unfold rsC
  simp only
  generalize hP : pathB (wyN N fr) fr (wyN N fr).length (stepB (wyN N fr) fr) = P at *
  have hlen : (P ++ [fr]).reverse.length = P.length + 1 := by simp
  have hg : ∀ j, j < P.length + 1 → (P ++ [fr]).reverse.getD j 0 = (P ++ [fr]).getD (P.length - j) 0 := by
    intro j hj
    rw [List.getD_eq_getElem?_getD, List.getD_eq_getElem?_getD, List.getElem?_reverse (by simp; omega)]
    congr 2
    simp
  have hs : ∀ j, j < P.length + 1 → (P ++ [fr])[j]? = some ((P ++ [fr]).getD j 0) := by
    intro j hj
    rw [List.getD_eq_getElem?_getD, List.getElem?_eq_getElem (by simp; omega)]
    rfl
  rw [hlen]
  refine ⟨by omega, by rw [hg 0 (by omega)]; simp, fun j hj => ?_, ?_, fun j h0 hj => ?_⟩
  · rw [hg (j + 1) hj, hg j (by omega)]
    exact h1 (P.length - (j + 1)) _ _ (hs _ (by omega)) (by rw [show P.length - (j + 1) + 1 = P.length - j by omega]; exact hs _ (by omega))
  · rw [hg _ (by omega), show P.length - (P.length + 1 - 1) = 0 by omega]
    have : (P ++ [fr]).getD 0 0 = stepB (wyN N fr) fr := by rw [List.getD_eq_getElem?_getD, h2]; rfl
    rw [this]
    exact hst
  · rw [hg j hj]
    have hm : (P ++ [fr]).getD (P.length - j) 0 ∈ P := by
      rw [List.getD_eq_getElem?_getD, List.getElem?_append_left (by omega), List.getElem?_eq_getElem (by omega)]
      exact List.getElem_mem _
    exact (h3 _ hm).1
/-- When one is looked at. -/
def qI (bk : Bk) (fr x : Int) : Nat := if x = fr then 0 else posB bk x + 1
section
variable {N : Rw} (hs : ∀ a, (rowL N a).Pairwise (· < ·)) {fr : Int}
theorem posB_at {bk : Bk} {x : Int} (hx : x ∈ bk.map (·.1)) : ∃ p, bk[posB bk x]? = some (x, p) := by
  have hl := posB_lt hx
  have h := List.findIdx_getElem (w := hl)
  simp only [decide_eq_true_eq] at h
  refine ⟨(bk[posB bk x]).2, ?_⟩
  rw [List.getElem?_eq_getElem hl]
  congr 1
  exact Prod.ext h rfl
theorem qI_at {x : Int} (hx : x = fr ∨ x ∈ (wyN N fr).map (·.1)) : (fr :: (wyN N fr).map (·.1))[qI (wyN N fr) fr x]? = some x := by
  unfold qI
  by_cases h : x = fr
  · rw [if_pos h, h]; rfl
  · rw [if_neg h, List.getElem?_cons_succ, List.getElem?_map]
    obtain ⟨p, hp⟩ := posB_at (hx.resolve_left h)
    rw [hp]
    rfl
/-- Whoever has an edge to one is not looked at before the first such. -/
theorem fI_le {x y : Int} (hy : y = fr ∨ y ∈ (wyN N fr).map (·.1)) (h : x ∈ rowL N y) : fI N (fr :: (wyN N fr).map (·.1)) x ≤ qI (wyN N fr) fr y := by
  refine Nat.le_of_not_lt fun hlt => ?_
  have ha := qI_at hy
  obtain ⟨h1, h2⟩ := List.getElem?_eq_some_iff.1 ha
  have h3 := List.not_of_lt_findIdx hlt
  rw [h2] at h3
  rw [decide_eq_true h] at h3
  cases h3
include hs in
theorem fI_par {x p : Int} (h : (x, p) ∈ wyN N fr) : fI N (fr :: (wyN N fr).map (·.1)) x = qI (wyN N fr) fr p := by
  have K := inQ N hs (fr :: (wyN N fr).map (·.1))
  have hr := K.par (x, p) (by rw [← wyN_closed]; exact h)
  simp only at hr
  have hpm : p = fr ∨ p ∈ (wyN N fr).map (·.1) := by
    have := List.mem_of_getElem? hr
    exact List.mem_cons.1 this
  refine Nat.le_antisymm (fI_le hpm (wyN_par N fr (x, p) h)) ?_
  unfold qI
  by_cases hp : p = fr
  · rw [if_pos hp]; exact Nat.zero_le _
  · rw [if_neg hp]
    cases hf : fI N (fr :: (wyN N fr).map (·.1)) x with
    | zero =>
      rw [hf] at hr
      simp only [List.getElem?_cons_zero, Option.some.injEq] at hr
      exact absurd hr.symm hp
    | succ k =>
      rw [hf, List.getElem?_cons_succ, List.getElem?_map] at hr
      obtain ⟨e, he, hek⟩ := Option.map_eq_some_iff.1 hr
      refine Nat.succ_le_succ (Nat.le_of_not_lt fun hlt => ?_)
      have h3 := List.not_of_lt_findIdx hlt
      obtain ⟨h4, h5⟩ := List.getElem?_eq_some_iff.1 he
      rw [h5] at h3
      rw [decide_eq_true hek] at h3
      cases h3
include hs in
/-- Whose first one is earlier is come to earlier. -/
theorem qI_lt {x y : Int} (hx : x ∈ (wyN N fr).map (·.1)) (hy : y ∈ (wyN N fr).map (·.1)) (hyf : y ≠ fr)
    (h : fI N (fr :: (wyN N fr).map (·.1)) x < fI N (fr :: (wyN N fr).map (·.1)) y ∨ fI N (fr :: (wyN N fr).map (·.1)) x = fI N (fr :: (wyN N fr).map (·.1)) y ∧ x < y) : qI (wyN N fr) fr x < qI (wyN N fr) fr y := by
  have K := (inQ N hs (fr :: (wyN N fr).map (·.1))).pw
  rw [← wyN_closed, List.pairwise_iff_getElem] at K
  obtain ⟨p, hp⟩ := posB_at hx
  obtain ⟨p', hp'⟩ := posB_at hy
  obtain ⟨h1, h2⟩ := List.getElem?_eq_some_iff.1 hp
  obtain ⟨h3, h4⟩ := List.getElem?_eq_some_iff.1 hp'
  have hlt : posB (wyN N fr) x < posB (wyN N fr) y := by
    refine Nat.lt_of_not_le fun hle => ?_
    rcases Nat.lt_or_eq_of_le hle with hlt | heq
    · have := K _ _ h3 h1 hlt
      rw [h2, h4] at this
      simp only at this
      omega
    · have e : (x, p) = (y, p') := by rw [← h2, ← h4]; congr 1; exact heq.symm
      injection e with e1 e2
      subst e1
      omega
  unfold qI
  rw [if_neg hyf]
  split
  · omega
  · omega
/-- The cycle's own order. -/
theorem cy_mono (hr : Rd N fr fr) : ∀ k j, j + k < (rsC N fr).1.length → qI (wyN N fr) fr ((rsC N fr).1.getD j 0) ≤ qI (wyN N fr) fr ((rsC N fr).1.getD (j + k) 0)
  | 0, j, _ => Nat.le_refl _
  | k + 1, j, h => by
    obtain ⟨_, _, h3, _, h5⟩ := rs_facts N fr hr
    refine Nat.le_trans (cy_mono hr k j (by omega)) ?_
    have he := h3 (j + k) (by omega)
    have hf := h5 (j + k + 1) (by omega) (by omega)
    have hk : (rsC N fr).1.getD (j + k + 1) 0 ∈ (wyN N fr).map (·.1) := List.mem_map.2 ⟨_, he, rfl⟩
    rw [← Nat.add_assoc]
    rcases posB_step (wyN_nodup N fr) (wyN_tr N fr) hk with h6 | ⟨h6, h7⟩
    · have e : stepB (wyN N fr) ((rsC N fr).1.getD (j + k + 1) 0) = (rsC N fr).1.getD (j + k) 0 := by
        unfold stepB
        rw [(getL_some_iff (wyN_nodup N fr)).2 he]
        rfl
      rw [e] at h6
      unfold qI
      rw [if_pos h6]
      exact Nat.zero_le _
    · have e : stepB (wyN N fr) ((rsC N fr).1.getD (j + k + 1) 0) = (rsC N fr).1.getD (j + k) 0 := by
        unfold stepB
        rw [(getL_some_iff (wyN_nodup N fr)).2 he]
        rfl
      rw [e] at h7
      unfold qI
      rw [if_neg hf]
      split
      · omega
      · omega
include hs in
/-- Who is ahead of the cycle stays ahead of it. -/
theorem ahead (hr : Rd N fr fr) {i : Nat} {t y : Int} (hw : Wk N i t y) : ∀ j, 0 < j → j + i < (rsC N fr).1.length → (t = fr ∨ t ∈ (wyN N fr).map (·.1)) → qI (wyN N fr) fr t < qI (wyN N fr) fr ((rsC N fr).1.getD j 0) →
    (y = fr ∨ y ∈ (wyN N fr).map (·.1)) ∧ qI (wyN N fr) fr y < qI (wyN N fr) fr ((rsC N fr).1.getD (j + i) 0) := by
  obtain ⟨_, _, h3, _, h5⟩ := rs_facts N fr hr
  have step : ∀ {t b : Int}, b ∈ rowL N t → ∀ j, 0 < j → j + 1 < (rsC N fr).1.length → (t = fr ∨ t ∈ (wyN N fr).map (·.1)) → qI (wyN N fr) fr t < qI (wyN N fr) fr ((rsC N fr).1.getD j 0) →
      (b = fr ∨ b ∈ (wyN N fr).map (·.1)) ∧ qI (wyN N fr) fr b < qI (wyN N fr) fr ((rsC N fr).1.getD (j + 1) 0) := by
    intro t b hb j hj0 hj ht hlt
    have hbk : b ∈ (wyN N fr).map (·.1) := ways_closed (wyN_ends N fr) t ht b hb
    have he := h3 j hj
    have hyf := h5 (j + 1) (by omega) hj
    have hyk : (rsC N fr).1.getD (j + 1) 0 ∈ (wyN N fr).map (·.1) := List.mem_map.2 ⟨_, he, rfl⟩
    have hfp := fI_par hs he
    have hfl := fI_le (N := N) (fr := fr) ht hb
    refine ⟨.inr hbk, qI_lt hs hbk hyk hyf (.inl ?_)⟩
    omega
  induction hw with
  | one hb => exact fun j hj0 hj ht hlt => step hb j hj0 hj ht hlt
  | @more n a t b hb _ ih =>
    intro j hj0 hj ht hlt
    obtain ⟨h6, h7⟩ := step hb j hj0 (by omega) ht hlt
    have := ih (j + 1) (by omega) (by omega) h6 h7
    rw [show j + 1 + n = j + (n + 1) by omega] at this
    exact this
include hs in
/-- Who is ahead of the cycle does not come back sooner. -/
theorem ahead_back (hr : Rd N fr fr) {i j : Nat} {t : Int} (hw : Wk N i t fr) (h0 : 0 < j) (hj : j < (rsC N fr).1.length) (ht : t = fr ∨ t ∈ (wyN N fr).map (·.1)) (hlt : qI (wyN N fr) fr t < qI (wyN N fr) fr ((rsC N fr).1.getD j 0)) : (rsC N fr).1.length < j + i := by
  refine Nat.lt_of_not_le fun hle => ?_
  obtain ⟨_, _, h3, h4, h5⟩ := rs_facts N fr hr
  have hfp := fI_par hs h4
  rcases hw.last with ⟨rfl, hb⟩ | ⟨y, h6, hw2, hb⟩
  · have := fI_le (N := N) (fr := fr) ht hb
    have hm := cy_mono hr ((rsC N fr).1.length - 1 - j) j (by omega)
    rw [show j + ((rsC N fr).1.length - 1 - j) = (rsC N fr).1.length - 1 by omega] at hm
    omega
  · obtain ⟨h7, h8⟩ := ahead hs hr hw2 j h0 (by omega) ht hlt
    have := fI_le (N := N) (fr := fr) h7 hb
    have hm := cy_mono hr ((rsC N fr).1.length - 1 - (j + (i - 1))) (j + (i - 1)) (by omega)
    rw [show j + (i - 1) + ((rsC N fr).1.length - 1 - (j + (i - 1))) = (rsC N fr).1.length - 1 by omega] at hm
    omega
include hs in
/-- No shorter way comes back. -/
theorem shortest (hr : Rd N fr fr) {k : Nat} (hw : Wk N k fr fr) : (rsC N fr).1.length ≤ k := by
  have hp := hw.pos
  by_cases h1 : 1 < (rsC N fr).1.length
  · obtain ⟨_, _, _, _, h5⟩ := rs_facts N fr hr
    have hq : qI (wyN N fr) fr fr < qI (wyN N fr) fr ((rsC N fr).1.getD 1 0) := by
      unfold qI
      rw [if_pos rfl, if_neg (h5 1 (by omega) h1)]
      omega
    have := ahead_back hs hr hw (by omega) h1 (.inl rfl) hq
    omega
  · omega
/-- The way along the cycle. -/
theorem along (hr : Rd N fr fr) : ∀ k j, j + k < (rsC N fr).1.length → 0 < k → Wk N k ((rsC N fr).1.getD j 0) ((rsC N fr).1.getD (j + k) 0)
  | 0, _, _, h => by omega
  | 1, j, h, _ => .one (wyN_par N fr _ ((rs_facts N fr hr).2.2.1 j h))
  | k + 2, j, h, _ => (along hr (k + 1) j (by omega) (by omega)).snoc (wyN_par N fr _ ((rs_facts N fr hr).2.2.1 (j + (k + 1)) (by omega)))
theorem back_ (hr : Rd N fr fr) (j : Nat) (h : j < (rsC N fr).1.length) : Wk N ((rsC N fr).1.length - j) ((rsC N fr).1.getD j 0) fr := by
  have hl := wyN_par N fr _ (rs_facts N fr hr).2.2.2.1
  simp only at hl
  by_cases hj : j + 1 = (rsC N fr).1.length
  · rw [show (rsC N fr).1.length - j = 1 by omega]
    rw [show (rsC N fr).1.length - 1 = j by omega] at hl
    exact .one hl
  · have := (along hr ((rsC N fr).1.length - 1 - j) j (by omega) (by omega))
    rw [show j + ((rsC N fr).1.length - 1 - j) = (rsC N fr).1.length - 1 by omega] at this
    have h2 := this.snoc hl
    rw [show (rsC N fr).1.length - 1 - j + 1 = (rsC N fr).1.length - j by omega] at h2
    exact h2
include hs in
/-- From each of the cycle no shorter way comes back. -/
theorem dist_ (hr : Rd N fr fr) (j : Nat) (h : j < (rsC N fr).1.length) {k : Nat} (hw : Wk N k ((rsC N fr).1.getD j 0) fr) : (rsC N fr).1.length - j ≤ k := by
  by_cases h0 : j = 0
  · subst h0
    rw [(rs_facts N fr hr).2.1] at hw
    have := shortest hs hr hw
    omega
  · have h2 := along hr j 0 (by omega) (by omega)
    rw [Nat.zero_add, (rs_facts N fr hr).2.1] at h2
    have := shortest hs hr (h2.app hw)
    omega
include hs in
/-- The next one of the cycle is the smallest with which it is as short. -/
theorem least (hr : Rd N fr fr) (j : Nat) (h : j + 1 < (rsC N fr).1.length) {t : Int} (ht : t ∈ rowL N ((rsC N fr).1.getD j 0)) (hw : Wk N ((rsC N fr).1.length - 1 - j) t fr) : (rsC N fr).1.getD (j + 1) 0 ≤ t := by
  refine Int.not_lt.1 fun hlt => ?_
  obtain ⟨_, hc0, h3, _, h5⟩ := rs_facts N fr hr
  have he := h3 j h
  have hck : (rsC N fr).1.getD j 0 = fr ∨ (rsC N fr).1.getD j 0 ∈ (wyN N fr).map (·.1) := by
    by_cases h0 : j = 0
    · subst h0; exact .inl hc0
    · refine .inr (List.mem_map.2 ⟨_, h3 (j - 1) (by omega), ?_⟩)
      rw [show j - 1 + 1 = j by omega]
  have htk : t ∈ (wyN N fr).map (·.1) := ways_closed (wyN_ends N fr) _ hck t ht
  have hyk : (rsC N fr).1.getD (j + 1) 0 ∈ (wyN N fr).map (·.1) := List.mem_map.2 ⟨_, he, rfl⟩
  have hyf := h5 (j + 1) (by omega) h
  have hq : qI (wyN N fr) fr t < qI (wyN N fr) fr ((rsC N fr).1.getD (j + 1) 0) := by
    refine qI_lt hs htk hyk hyf ?_
    have h6 := fI_par hs he
    have h7 := fI_le (N := N) (fr := fr) hck ht
    omega
  have := ahead_back hs hr hw (by omega) h (.inr htk) hq
  omega
end
end Go.Proofs.Ythbamhfnemdebaa
