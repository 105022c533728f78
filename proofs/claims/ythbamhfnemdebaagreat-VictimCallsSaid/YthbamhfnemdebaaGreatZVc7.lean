/-
  Contracts and plain laws that the walk leans on, part 7. No condition.
-/
import Derived.Test.YthbamhfnemdebaaGreatZVc6
namespace Go.Proofs.YthbamhfnemdebaaGreat
open Go.RowKit
/-- A walk of so many edges. -/
inductive Wk (N : Rw) : Nat → Int → Int → Prop
  | one {a b : Int} : b ∈ rowL N a → Wk N 1 a b
  | more {n : Nat} {a t b : Int} : t ∈ rowL N a → Wk N n t b → Wk N (n + 1) a b
theorem Wk.pos {N : Rw} {n : Nat} {a b : Int} (h : Wk N n a b) : 0 < n := by
  cases h <;> omega
theorem Wk.snoc {N : Rw} {n : Nat} {a b c : Int} (h : Wk N n a b) (hc : c ∈ rowL N b) : Wk N (n + 1) a c := by
  induction h with
  | one hb => exact .more hb (.one hc)
  | more ht _ ih => exact .more ht (ih hc)
theorem Wk.app {N : Rw} {n k : Nat} {a b c : Int} (h : Wk N n a b) (h2 : Wk N k b c) : Wk N (n + k) a c := by
  induction h with
  | one hb => rw [Nat.add_comm]; exact .more hb h2
  | more ht _ ih =>
    rename_i n _ _ _ _
    rw [show n + 1 + k = n + k + 1 by omega]
    exact .more ht (ih h2)
theorem Wk.rd {N : Rw} {n : Nat} {a b : Int} (h : Wk N n a b) : Rd N a b := by
  induction h with
  | one hb => exact .one hb
  | more ht _ ih => exact (Rd.one ht).trans ih
/-- The last edge of a walk. -/
theorem Wk.last {N : Rw} {n : Nat} {a b : Int} (h : Wk N n a b) : (n = 1 ∧ b ∈ rowL N a) ∨ ∃ y, 1 < n ∧ Wk N (n - 1) a y ∧ b ∈ rowL N y := by
  induction h with
  | one hb => exact .inl ⟨rfl, hb⟩
  | @more n a t b ht h ih =>
    right
    rcases ih with ⟨rfl, hb⟩ | ⟨y, h1, h2, h3⟩
    · exact ⟨t, by omega, .one ht, hb⟩
    · refine ⟨y, by omega, ?_, h3⟩
      rw [show n + 1 - 1 = n - 1 + 1 by omega]
      exact .more ht h2
theorem rs_facts (N : Rw) (fr : Int) (hr : Rd N fr fr) : 0 < (rsC N fr).1.length ∧ (rsC N fr).1.getD 0 0 = fr ∧ (∀ j, j + 1 < (rsC N fr).1.length → ((rsC N fr).1.getD (j + 1) 0, (rsC N fr).1.getD j 0) ∈ wyN N fr) ∧
    (fr, (rsC N fr).1.getD ((rsC N fr).1.length - 1) 0) ∈ wyN N fr ∧ ∀ j, 0 < j → j < (rsC N fr).1.length → (rsC N fr).1.getD j 0 ≠ fr := by
  have hk := (wyN_iff N fr fr).2 hr
  obtain ⟨h1, h2, h3, _⟩ := path_facts (wyN_nodup N fr) (wyN_tr N fr) _ _ (onB_start hk)
  have hst := stepB_mem (wyN_nodup N fr) hk
  unfold rsC
  simp only
  generalize hP : pathB (wyN N fr) fr (wyN N fr).length (stepB (wyN N fr) fr) = P at *
  have hlen : (P ++ [fr]).reverse.length = P.length + 1 := by simp
  have hg : ∀ j, j < P.length + 1 → (P ++ [fr]).reverse.getD j 0 = (P ++ [fr]).getD (P.length - j) 0 := by
    intro j hj
    rw [List.getD_eq_getElem?_getD, List.getD_eq_getElem?_getD, List.getElem?_reverse (by simp; omega)]
    congr 2
    simp
  have hs : ∀ j, j < P.length + 1 → (P ++ [fr])[j]? = some ((P ++ [fr]).getD j 0) := by
    intro j hj
    rw [List.getD_eq_getElem?_getD, List.getElem?_eq_getElem (by simp; omega)]
    rfl
  rw [hlen]
  refine ⟨by omega, by rw [hg 0 (by omega)]; simp, fun j hj => ?_, ?_, fun j h0 hj => ?_⟩
  · rw [hg (j + 1) hj, hg j (by omega)]
    exact h1 (P.length - (j + 1)) _ _ (hs _ (by omega)) (by rw [show P.length - (j + 1) + 1 = P.length - j by omega]; exact hs _ (by omega))
  · rw [hg _ (by omega), show P.length - (P.length + 1 - 1) = 0 by omega]
    have : (P ++ [fr]).getD 0 0 = stepB (wyN N fr) fr := by rw [List.getD_eq_getElem?_getD, h2]; rfl
    rw [this]
    exact hst
  · rw [hg j hj]
    have hm : (P ++ [fr]).getD (P.length - j) 0 ∈ P := by
      rw [List.getD_eq_getElem?_getD, List.getElem?_append_left (by omega), List.getElem?_eq_getElem (by omega)]
      exact List.getElem_mem _
    exact (h3 _ hm).1
/-- When one is looked at. -/
def qI (bk : Bk) (fr x : Int) : Nat := if x = fr then 0 else posB bk x + 1
section
variable {N : Rw} (hs : ∀ a, (rowL N a).Pairwise (· < ·)) {fr : Int}
theorem posB_at {bk : Bk} {x : Int} (hx : x ∈ bk.map (·.1)) : ∃ p, bk[posB bk x]? = some (x, p) := by
  have hl := posB_lt hx
  have h := List.findIdx_getElem (w := hl)
  simp only [decide_eq_true_eq] at h
  refine ⟨(bk[posB bk x]).2, ?_⟩
  rw [List.getElem?_eq_getElem hl]
  congr 1
  exact Prod.ext h rfl
theorem qI_at {x : Int} (hx : x = fr ∨ x ∈ (wyN N fr).map (·.1)) : (fr :: (wyN N fr).map (·.1))[qI (wyN N fr) fr x]? = some x := by
  unfold qI
  by_cases h : x = fr
  · rw [if_pos h, h]; rfl
  · rw [if_neg h, List.getElem?_cons_succ, List.getElem?_map]
    obtain ⟨p, hp⟩ := posB_at (hx.resolve_left h)
    rw [hp]
    rfl
/-- Whoever has an edge to one is not looked at before the first such. -/
theorem fI_le {x y : Int} (hy : y = fr ∨ y ∈ (wyN N fr).map (·.1)) (h : x ∈ rowL N y) : fI N (fr :: (wyN N fr).map (·.1)) x ≤ qI (wyN N fr) fr y := by
  refine Nat.le_of_not_lt fun hlt => ?_
  have ha := qI_at hy
  obtain ⟨h1, h2⟩ := List.getElem?_eq_some_iff.1 ha
  have h3 := List.not_of_lt_findIdx hlt
  rw [h2] at h3
  rw [decide_eq_true h] at h3
  cases h3
include hs in
theorem fI_par {x p : Int} (h : (x, p) ∈ wyN N fr) : fI N (fr :: (wyN N fr).map (·.1)) x = qI (wyN N fr) fr p := by
  have K := inQ N hs (fr :: (wyN N fr).map (·.1))
  have hr := K.par (x, p) (by rw [← wyN_closed]; exact h)
  simp only at hr
  have hpm : p = fr ∨ p ∈ (wyN N fr).map (·.1) := by
    have := List.mem_of_getElem? hr
    exact List.mem_cons.1 this
  refine Nat.le_antisymm (fI_le hpm (wyN_par N fr (x, p) h)) ?_
  unfold qI
  by_cases hp : p = fr
  · rw [if_pos hp]; exact Nat.zero_le _
  · rw [if_neg hp]
    cases hf : fI N (fr :: (wyN N fr).map (·.1)) x with
    | zero =>
      rw [hf] at hr
      simp only [List.getElem?_cons_zero, Option.some.injEq] at hr
      exact absurd hr.symm hp
    | succ k =>
      rw [hf, List.getElem?_cons_succ, List.getElem?_map] at hr
      obtain ⟨e, he, hek⟩ := Option.map_eq_some_iff.1 hr
      refine Nat.succ_le_succ (Nat.le_of_not_lt fun hlt => ?_)
      have h3 := List.not_of_lt_findIdx hlt
      obtain ⟨h4, h5⟩ := List.getElem?_eq_some_iff.1 he
      rw [h5] at h3
      rw [decide_eq_true hek] at h3
      cases h3
include hs in
/-- Whose first one is earlier is come to earlier. -/
theorem qI_lt {x y : Int} (hx : x ∈ (wyN N fr).map (·.1)) (hy : y ∈ (wyN N fr).map (·.1)) (hyf : y ≠ fr)
    (h : fI N (fr :: (wyN N fr).map (·.1)) x < fI N (fr :: (wyN N fr).map (·.1)) y ∨ fI N (fr :: (wyN N fr).map (·.1)) x = fI N (fr :: (wyN N fr).map (·.1)) y ∧ x < y) : qI (wyN N fr) fr x < qI (wyN N fr) fr y := by
  have K := (inQ N hs (fr :: (wyN N fr).map (·.1))).pw
  rw [← wyN_closed, List.pairwise_iff_getElem] at K
  obtain ⟨p, hp⟩ := posB_at hx
  obtain ⟨p', hp'⟩ := posB_at hy
  obtain ⟨h1, h2⟩ := List.getElem?_eq_some_iff.1 hp
  obtain ⟨h3, h4⟩ := List.getElem?_eq_some_iff.1 hp'
  have hlt : posB (wyN N fr) x < posB (wyN N fr) y := by
    refine Nat.lt_of_not_le fun hle => ?_
    rcases Nat.lt_or_eq_of_le hle with hlt | heq
    · have := K _ _ h3 h1 hlt
      rw [h2, h4] at this
      simp only at this
      omega
    · have e : (x, p) = (y, p') := by rw [← h2, ← h4]; congr 1; exact heq.symm
      injection e with e1 e2
      subst e1
      omega
  unfold qI
  rw [if_neg hyf]
  split
  · omega
  · omega
/-- The cycle's own order. -/
theorem cy_mono (hr : Rd N fr fr) : ∀ k j, j + k < (rsC N fr).1.length → qI (wyN N fr) fr ((rsC N fr).1.getD j 0) ≤ qI (wyN N fr) fr ((rsC N fr).1.getD (j + k) 0)
  | 0, j, _ => Nat.le_refl _
  | k + 1, j, h => by
    obtain ⟨_, _, h3, _, h5⟩ := rs_facts N fr hr
    refine Nat.le_trans (cy_mono hr k j (by omega)) ?_
    have he := h3 (j + k) (by omega)
    have hf := h5 (j + k + 1) (by omega) (by omega)
    have hk : (rsC N fr).1.getD (j + k + 1) 0 ∈ (wyN N fr).map (·.1) := List.mem_map.2 ⟨_, he, rfl⟩
    rw [← Nat.add_assoc]
    rcases posB_step (wyN_nodup N fr) (wyN_tr N fr) hk with h6 | ⟨h6, h7⟩
    · have e : stepB (wyN N fr) ((rsC N fr).1.getD (j + k + 1) 0) = (rsC N fr).1.getD (j + k) 0 := by
        unfold stepB
        rw [(getL_some_iff (wyN_nodup N fr)).2 he]
        rfl
      rw [e] at h6
      unfold qI
      rw [if_pos h6]
      exact Nat.zero_le _
    · have e : stepB (wyN N fr) ((rsC N fr).1.getD (j + k + 1) 0) = (rsC N fr).1.getD (j + k) 0 := by
        unfold stepB
        rw [(getL_some_iff (wyN_nodup N fr)).2 he]
        rfl
      rw [e] at h7
      unfold qI
      rw [if_neg hf]
      split
      · omega
      · omega
include hs in
/-- Who is ahead of the cycle stays ahead of it. -/
theorem ahead (hr : Rd N fr fr) {i : Nat} {t y : Int} (hw : Wk N i t y) : ∀ j, 0 < j → j + i < (rsC N fr).1.length → (t = fr ∨ t ∈ (wyN N fr).map (·.1)) → qI (wyN N fr) fr t < qI (wyN N fr) fr ((rsC N fr).1.getD j 0) →
    (y = fr ∨ y ∈ (wyN N fr).map (·.1)) ∧ qI (wyN N fr) fr y < qI (wyN N fr) fr ((rsC N fr).1.getD (j + i) 0) := by
  obtain ⟨_, _, h3, _, h5⟩ := rs_facts N fr hr
  have step : ∀ {t b : Int}, b ∈ rowL N t → ∀ j, 0 < j → j + 1 < (rsC N fr).1.length → (t = fr ∨ t ∈ (wyN N fr).map (·.1)) → qI (wyN N fr) fr t < qI (wyN N fr) fr ((rsC N fr).1.getD j 0) →
      (b = fr ∨ b ∈ (wyN N fr).map (·.1)) ∧ qI (wyN N fr) fr b < qI (wyN N fr) fr ((rsC N fr).1.getD (j + 1) 0) := by
    intro t b hb j hj0 hj ht hlt
    have hbk : b ∈ (wyN N fr).map (·.1) := ways_closed (wyN_ends N fr) t ht b hb
    have he := h3 j hj
    have hyf := h5 (j + 1) (by omega) hj
    have hyk : (rsC N fr).1.getD (j + 1) 0 ∈ (wyN N fr).map (·.1) := List.mem_map.2 ⟨_, he, rfl⟩
    have hfp := fI_par hs he
    have hfl := fI_le (N := N) (fr := fr) ht hb
    refine ⟨.inr hbk, qI_lt hs hbk hyk hyf (.inl ?_)⟩
    omega
  induction hw with
  | one hb => exact fun j hj0 hj ht hlt => step hb j hj0 hj ht hlt
  | @more n a t b hb _ ih =>
    intro j hj0 hj ht hlt
    obtain ⟨h6, h7⟩ := step hb j hj0 (by omega) ht hlt
    have := ih (j + 1) (by omega) (by omega) h6 h7
    rw [show j + 1 + n = j + (n + 1) by omega] at this
    exact this
include hs in
/-- Who is ahead of the cycle does not come back sooner. -/
theorem ahead_back (hr : Rd N fr fr) {i j : Nat} {t : Int} (hw : Wk N i t fr) (h0 : 0 < j) (hj : j < (rsC N fr).1.length) (ht : t = fr ∨ t ∈ (wyN N fr).map (·.1)) (hlt : qI (wyN N fr) fr t < qI (wyN N fr) fr ((rsC N fr).1.getD j 0)) : (rsC N fr).1.length < j + i := by
  refine Nat.lt_of_not_le fun hle => ?_
  obtain ⟨_, _, h3, h4, h5⟩ := rs_facts N fr hr
  have hfp := fI_par hs h4
  rcases hw.last with ⟨rfl, hb⟩ | ⟨y, h6, hw2, hb⟩
  · have := fI_le (N := N) (fr := fr) ht hb
    have hm := cy_mono hr ((rsC N fr).1.length - 1 - j) j (by omega)
    rw [show j + ((rsC N fr).1.length - 1 - j) = (rsC N fr).1.length - 1 by omega] at hm
    omega
  · obtain ⟨h7, h8⟩ := ahead hs hr hw2 j h0 (by omega) ht hlt
    have := fI_le (N := N) (fr := fr) h7 hb
    have hm := cy_mono hr ((rsC N fr).1.length - 1 - (j + (i - 1))) (j + (i - 1)) (by omega)
    rw [show j + (i - 1) + ((rsC N fr).1.length - 1 - (j + (i - 1))) = (rsC N fr).1.length - 1 by omega] at hm
    omega
include hs in
/-- No shorter way comes back. -/
theorem shortest (hr : Rd N fr fr) {k : Nat} (hw : Wk N k fr fr) : (rsC N fr).1.length ≤ k := by
  have hp := hw.pos
  by_cases h1 : 1 < (rsC N fr).1.length
  · obtain ⟨_, _, _, _, h5⟩ := rs_facts N fr hr
    have hq : qI (wyN N fr) fr fr < qI (wyN N fr) fr ((rsC N fr).1.getD 1 0) := by
      unfold qI
      rw [if_pos rfl, if_neg (h5 1 (by omega) h1)]
      omega
    have := ahead_back hs hr hw (by omega) h1 (.inl rfl) hq
    omega
  · omega
/-- The way along the cycle. -/
theorem along (hr : Rd N fr fr) : ∀ k j, j + k < (rsC N fr).1.length → 0 < k → Wk N k ((rsC N fr).1.getD j 0) ((rsC N fr).1.getD (j + k) 0)
  | 0, _, _, h => by omega
  | 1, j, h, _ => .one (wyN_par N fr _ ((rs_facts N fr hr).2.2.1 j h))
  | k + 2, j, h, _ => (along hr (k + 1) j (by omega) (by omega)).snoc (wyN_par N fr _ ((rs_facts N fr hr).2.2.1 (j + (k + 1)) (by omega)))
theorem back_ (hr : Rd N fr fr) (j : Nat) (h : j < (rsC N fr).1.length) : Wk N ((rsC N fr).1.length - j) ((rsC N fr).1.getD j 0) fr := by
  have hl := wyN_par N fr _ (rs_facts N fr hr).2.2.2.1
  simp only at hl
  by_cases hj : j + 1 = (rsC N fr).1.length
  · rw [show (rsC N fr).1.length - j = 1 by omega]
    rw [show (rsC N fr).1.length - 1 = j by omega] at hl
    exact .one hl
  · have := (along hr ((rsC N fr).1.length - 1 - j) j (by omega) (by omega))
    rw [show j + ((rsC N fr).1.length - 1 - j) = (rsC N fr).1.length - 1 by omega] at this
    have h2 := this.snoc hl
    rw [show (rsC N fr).1.length - 1 - j + 1 = (rsC N fr).1.length - j by omega] at h2
    exact h2
include hs in
/-- From each of the cycle no shorter way comes back. -/
theorem dist_ (hr : Rd N fr fr) (j : Nat) (h : j < (rsC N fr).1.length) {k : Nat} (hw : Wk N k ((rsC N fr).1.getD j 0) fr) : (rsC N fr).1.length - j ≤ k := by
  by_cases h0 : j = 0
  · subst h0
    rw [(rs_facts N fr hr).2.1] at hw
    have := shortest hs hr hw
    omega
  · have h2 := along hr j 0 (by omega) (by omega)
    rw [Nat.zero_add, (rs_facts N fr hr).2.1] at h2
    have := shortest hs hr (h2.app hw)
    omega
include hs in
/-- The next one of the cycle is the smallest with which it is as short. -/
theorem least (hr : Rd N fr fr) (j : Nat) (h : j + 1 < (rsC N fr).1.length) {t : Int} (ht : t ∈ rowL N ((rsC N fr).1.getD j 0)) (hw : Wk N ((rsC N fr).1.length - 1 - j) t fr) : (rsC N fr).1.getD (j + 1) 0 ≤ t := by
  refine Int.not_lt.1 fun hlt => ?_
  obtain ⟨_, hc0, h3, _, h5⟩ := rs_facts N fr hr
  have he := h3 j h
  have hck : (rsC N fr).1.getD j 0 = fr ∨ (rsC N fr).1.getD j 0 ∈ (wyN N fr).map (·.1) := by
    by_cases h0 : j = 0
    · subst h0; exact .inl hc0
    · refine .inr (List.mem_map.2 ⟨_, h3 (j - 1) (by omega), ?_⟩)
      rw [show j - 1 + 1 = j by omega]
  have htk : t ∈ (wyN N fr).map (·.1) := ways_closed (wyN_ends N fr) _ hck t ht
  have hyk : (rsC N fr).1.getD (j + 1) 0 ∈ (wyN N fr).map (·.1) := List.mem_map.2 ⟨_, he, rfl⟩
  have hyf := h5 (j + 1) (by omega) h
  have hq : qI (wyN N fr) fr t < qI (wyN N fr) fr ((rsC N fr).1.getD (j + 1) 0) := by
    refine qI_lt hs htk hyk hyf ?_
    have h6 := fI_par hs he
    have h7 := fI_le (N := N) (fr := fr) hck ht
    omega
  have := ahead_back hs hr hw (by omega) h (.inr htk) hq
  omega
end
end Go.Proofs.YthbamhfnemdebaaGreat
namespace Go.Proofs.YthbamhfnemdebaaGreat
open Go.RowKit
def ltB (a b : Ed) : Bool := decide (a.from_ < b.from_) || (a.from_ == b.from_ && decide (a.tgt < b.tgt))
theorem ltB_iff (a b : Ed) : ltB a b = true ↔ ltE a b := by simp [ltB, ltE]
/-- The place of an edge among sorted ones. -/
def kS (l : List Ed) (e : Ed) : Nat := l.findIdx fun x => !ltB x e
def insS (l : List Ed) (e : Ed) : List Ed := if l[kS l e]? = some e then l else l.take (kS l e) ++ [e] ++ l.drop (kS l e)
theorem kS_eq (l : List Ed) (e : Ed) (k : Nat) (hk : k ≤ l.length) (h1 : ∀ x ∈ l.take k, ltB x e = true) (h2 : ∀ x, l[k]? = some x → ltB x e = false) : kS l e = k := by
  unfold kS
  conv => lhs; rw [← List.take_append_drop k l]
  rw [List.findIdx_append, if_neg]
  · rw [List.length_take, Nat.min_eq_left hk]
    cases hd : l.drop k with
    | nil => simp
    | cons x xs =>
      have : l[k]? = some x := by
        have := congrArg (·[0]?) hd
        simpa using this
      simp [List.findIdx_cons, h2 x this]
  · rw [Nat.not_lt]
    refine Nat.le_of_eq (List.findIdx_eq_length.2 fun x hx => ?_).symm
    rw [h1 x hx]
    rfl
theorem insS_mem (l : List Ed) (e x : Ed) : x ∈ insS l e ↔ x ∈ l ∨ x = e := by
  unfold insS
  split
  · rename_i h
    have := List.mem_of_getElem? h
    constructor
    · exact .inl
    · rintro (h | rfl)
      · exact h
      · exact this
  · conv => rhs; rw [← List.take_append_drop (kS l e) l]
    simp only [List.mem_append, List.mem_singleton]
    constructor
    · rintro ((h | h) | h)
      · exact .inl (.inl h)
      · exact .inr h
      · exact .inl (.inr h)
    · rintro ((h | h) | h)
      · exact .inl (.inl h)
      · exact .inr h
      · exact .inl (.inr h)
theorem insS_pw (l : List Ed) (e : Ed) (h : l.Pairwise ltE) : (insS l e).Pairwise ltE := by
  unfold insS
  split
  · exact h
  · rename_i hne
    have hlow : ∀ x ∈ l.take (kS l e), ltE x e := by
      intro x hx
      obtain ⟨i, hi, rfl⟩ := List.mem_take_iff_getElem.1 hx
      have hi2 : i < kS l e := by omega
      have h3 := List.not_of_lt_findIdx hi2
      have h4 : ltB (l[i]'(by omega)) e = true := by
        cases hb : ltB (l[i]'(by omega)) e with
        | true => rfl
        | false => rw [hb] at h3; cases h3
      exact (ltB_iff _ _).1 h4
    have hhigh : ∀ x ∈ l.drop (kS l e), ltE e x := by
      intro x hx
      obtain ⟨i, hi, rfl⟩ := List.mem_drop_iff_getElem.1 hx
      have hk : kS l e < l.length := by omega
      have h3 : (!ltB l[kS l e] e) = true := List.findIdx_getElem (w := hk)
      have h4 : ¬ ltE l[kS l e] e := by
        rw [← ltB_iff]
        intro h
        rw [h] at h3
        cases h3
      have h5 : l[kS l e] ≠ e := by
        intro h
        exact hne (by rw [List.getElem?_eq_getElem hk, h])
      have h6 : ltE e l[kS l e] := by
        generalize l[kS l e] = y at *
        obtain ⟨a, b⟩ := y
        obtain ⟨c, d⟩ := e
        simp only [ltE, ne_eq, Ed.mk.injEq] at *
        omega
      by_cases h0 : i = 0
      · subst h0
        exact h6
      · have h7 := List.pairwise_iff_getElem.1 h (kS l e) (kS l e + i) hk (by omega) (by omega)
        generalize l[kS l e] = y at h6 h7
        generalize l[kS l e + i] = x at h7 ⊢
        simp only [ltE] at *
        omega
    rw [List.append_assoc, List.pairwise_append]
    refine ⟨h.sublist (List.take_sublist _ _), ?_, fun x hx y hy => ?_⟩
    · rw [List.singleton_append, List.pairwise_cons]
      exact ⟨hhigh, h.sublist (List.drop_sublist _ _)⟩
    · rcases List.mem_append.1 hy with hy | hy
      · simp only [List.mem_singleton] at hy
        subst hy
        exact hlow x hx
      · have h1 := hlow x hx
        have h2 := hhigh y hy
        simp only [ltE] at *
        omega
theorem insS_fold (L : List Ed) : L.foldl insS [] = sdE L := by
  have key : ∀ (l O : List Ed), O.Pairwise ltE → (l.foldl insS O).Pairwise ltE ∧ ∀ x, x ∈ l.foldl insS O ↔ x ∈ O ∨ x ∈ l := by
    intro l
    induction l with
    | nil => exact fun O h => ⟨h, by simp⟩
    | cons e l ih =>
      intro O h
      obtain ⟨h1, h2⟩ := ih (insS O e) (insS_pw O e h)
      refine ⟨h1, fun x => ?_⟩
      rw [List.foldl_cons, h2, insS_mem, List.mem_cons, or_assoc]
  obtain ⟨h1, h2⟩ := key L [] (by simp)
  exact ltE_uniq _ _ h1 (sdE_pw L) fun x => by rw [h2, sdE_mem]; simp
end Go.Proofs.YthbamhfnemdebaaGreat
namespace Go.Proofs.YthbamhfnemdebaaGreat
open Go.RowKit
set_option maxHeartbeats 4000000 in
theorem less_any (a b : Ed) (W : World) : Calls Tryz.prog 57 #[val_ed a, val_ed b] W fun e w' => e = .returned (.bool (ltB a b)) ∧ Below W.heap.size W w' := by
  obtain ⟨af, at_⟩ := a
  obtain ⟨bf, bt⟩ := b
  have hB := Lib.hid (box2e W #[.int .i64 af, .int .i64 at_] #[.int .i64 bf, .int .i64 bt])
  obtain ⟨_, d0, d1, _⟩ := hB.out.b2
  obtain ⟨_, c0, c1, _⟩ := hB.out.to1.b2
  unfold ltB val_ed
  simp only
  by_cases h1 : af < bf
  · have e1 : decide (af < bf) = true := by simp [h1]
    rw [e1]
    go_enter Tryz.func57, Tryz.ntmps57
    go_wp2_with fail
    go_ret
    exact ⟨rfl, hB.out.tail.tail.gold⟩
  · have e1 : decide (af < bf) = false := by simp [h1]
    rw [e1]
    by_cases h2 : af = bf
    · subst h2
      have e2 : (af == af) = true := by simp
      rw [e2]
      go_enter Tryz.func57, Tryz.ntmps57
      go_wp2_with fail
      go_ret
      exact ⟨rfl, hB.out.tail.tail.gold⟩
    · have e2 : (af == bf) = false := by simp [h2]
      rw [e2]
      go_enter Tryz.func57, Tryz.ntmps57
      go_wp2_with fail
      go_ret
      exact ⟨rfl, hB.out.tail.tail.gold⟩
theorem fresh_ed (w : World) : Sep (w.alloc (.cells #[] 36)) [vec 36 2 (.slice (some ⟨w.heap.size, 0, none⟩) 0 0) 0 [], old w] :=
  (Sep.start w).vec_new (World.ownsRow_made w #[] 0 (Nat.le_refl _) (Nat.zero_le _) rfl) ((Below.refl _ _).alloc (Nat.le_refl _) _)
/-- The first few of edges as a source. -/
theorem src_take {w : World} {a : Option Addr} {n c k : Nat} {O : List Ed} {rs : List Res} (h : Sep w (vec 36 2 (.slice a n c) n (O.flatMap Ed.cells) :: rs)) (hn : O.length = n) (hk : k ≤ n) : SrcA w 2 (.slice a k c) k ((O.take k).flatMap Ed.cells) := by
  subst hn
  obtain ⟨hl, a', c', hv, hc, hna, hz⟩ := h.vec_rl
  injection hv with e1 _ e3
  subst e1 e3
  have hlen : ((O.take k).flatMap Ed.cells).length = k * 2 := by rw [flat_len Ed.cells 2 ed_len, List.length_take, Nat.min_eq_left hk]
  refine RL.srcA (n := k) ⟨hlen, a, c, rfl, by omega, hna, fun h0 => ?_⟩
  obtain ⟨b, off, ha, hb, hz⟩ := hz (by omega)
  refine ⟨b, off, ha, hb, fun j u hj => hz j u ?_⟩
  rw [← flat_take Ed.cells 2 ed_len O k hk, List.getElem?_take] at hj
  split at hj
  · exact hj
  · cases hj
theorem flat_drop (O : List Ed) (k : Nat) (hk : k ≤ O.length) : (O.flatMap Ed.cells).drop (k * 2) = (O.drop k).flatMap Ed.cells := by
  conv => lhs; rw [← List.take_append_drop k O, List.flatMap_append]
  have hl : ((O.take k).flatMap Ed.cells).length = k * 2 := by rw [flat_len Ed.cells 2 ed_len, List.length_take, Nat.min_eq_left hk]
  rw [← hl, List.drop_left]
/-- The rest of edges as a source. -/
theorem src_drop {w : World} {g n c k c' : Nat} {O : List Ed} {rs : List Res} (h : Sep w (vec 36 2 (.slice (some ⟨g, 0, none⟩) n c) n (O.flatMap Ed.cells) :: rs)) (hn : O.length = n) (hk : k ≤ n) : SrcA w 2 (.slice (some ⟨g, k * 2, none⟩) (n - k) c') (n - k) ((O.drop k).flatMap Ed.cells) := by
  refine .inr ⟨_, _, rfl, by rw [flat_len Ed.cells 2 ed_len, List.length_drop, hn], fun j u hj => ?_⟩
  rw [Addr.add_lit]
  rw [← flat_drop O k (by omega), List.getElem?_drop] at hj
  exact (h.vec_cell hj).1
set_option maxHeartbeats 8000000 in
set_option maxRecDepth 100000 in
theorem sortedR_any (v : Value) (L : List Ed) (w : World) (hv : RL w v 2 L.length (L.flatMap Ed.cells)) (hl : L.length ≤ 4000) :
    Calls Tryz.prog 44 #[v] w fun e w' => ∃ a c, e = .returned (.slice a (sdE L).length c) ∧ Sep w' [vec 36 2 (.slice a (sdE L).length c) (sdE L).length ((sdE L).flatMap Ed.cells), old w] := by
  have hv2 := Lib.hid hv
  obtain ⟨_, va, vp, rfl, _⟩ := hv
  obtain ⟨n0, hn0⟩ : ∃ n0, Hid (L.length = n0) := ⟨_, rfl⟩
  rw [hn0.out] at hv2 hl ⊢
  have hfin := Lib.hid (insS_fold L)
  obtain ⟨i0, hi0, hz0, hz1, hz2⟩ := info_parts info_ed
  have h1c : Hid (∀ x y, ∀ u ∈ ([.int .i64 x, .int .i64 y] : List Value), u.oneCell' = true) := Lib.hid (by simp [Value.oneCell'])
  have h1d := Lib.hid edcells_one
  have hV0 := Lib.hid ((Sep.start w).vec_nil 36 2)
  go_enter Tryz.func44, Tryz.ntmps44
  go_wp2_with fail
  go_loopg [3, 4] n0 (fun gm s3 s4 W => ∃ (i : Nat) (O : List Ed) (ao : Option Addr) (co n : Nat), i ≤ n0 ∧ gm = n0 - i ∧ s3 = .slice ao n co ∧ s4 = .int .i64 i ∧ Hid (O = (L.take i).foldl insS []) ∧ Hid (O.length = n) ∧ n ≤ i ∧ (n = 0 → ao = none ∧ co = 0) ∧ Hid (Sep W [vec 36 2 (.slice ao n co) n (O.flatMap Ed.cells), old w]))
  case atStart => exact ⟨0, [], none, 0, 0, Nat.zero_le _, rfl, rfl, rfl, Lib.hid rfl, Lib.hid rfl, by omega, fun _ => ⟨rfl, rfl⟩, hV0⟩
  case round =>
    clear hV0
    obtain ⟨i, O, ao, co, n, hi, hgm, rfl, rfl, hO, hOn, hni, hnil, hV⟩ := hrel
    by_cases hlt : i < n0
    · obtain ⟨b, off, rfl, hb, zz⟩ := cells_ed hv2.out hn0.out (by omega)
      have hil : i < L.length := by rw [hn0.out]; exact hlt
      have c0 : w.cell? ⟨b, off + i * 2, none⟩ = some (.int .i64 L[i].from_) := zz i _ (List.getElem?_eq_getElem hil) 0 _ rfl
      have c1 : w.cell? ⟨b, off + i * 2 + 1, none⟩ = some (.int .i64 L[i].tgt) := zz i _ (List.getElem?_eq_getElem hil) 1 _ rfl
      have hO2 := Lib.hid (show (L.take (i + 1)).foldl insS [] = insS O L[i] by rw [List.take_succ_eq_append_getElem hil, List.foldl_append, ← hO.out]; rfl)
      clear zz
      obtain ⟨e, he⟩ : ∃ e, L[i] = e := ⟨_, rfl⟩
      rw [he] at c0 c1 hO2
      clear he
      obtain ⟨ef, et⟩ := e
      simp only at c0 c1
      have i1 : (0 : Int) ≤ (i : Int) := by omega
      have i2 : (i : Int) < (n0 : Int) := by omega
      replace hO := Lib.hid hO.out
      go_wp2_with fail
      go_loopg [5] n (fun gm s5 W => ∃ k : Nat, k ≤ n ∧ gm = n - k ∧ s5 = .int .i64 k ∧ Hid (∀ x ∈ O.take k, ltB x ⟨ef, et⟩ = true) ∧ Hid (Sep W [vec 36 2 (.slice ao n co) n (O.flatMap Ed.cells), old w]))
      case atStart => exact ⟨0, Nat.zero_le _, rfl, rfl, Lib.hid (by simp), hV⟩
      case round =>
        clear hV
        obtain ⟨k, hk, hg2, rfl, hlow, hV⟩ := hrel
        have k0 : (0 : Int) ≤ (k : Int) := by omega
        by_cases hkn : k < n
        · have k1 : (k : Int) < (n : Int) := by omega
          obtain ⟨g, cap, cur, hgv, _⟩ := hV.out.gvec.2.resolve_left (by rintro ⟨_, h⟩; omega)
          injection hgv with e1 _ e3
          subst e1 e3
          have hkl : k < O.length := by rw [hOn.out]; exact hkn
          have hx0 := Lib.hid (show (O.flatMap Ed.cells)[k * 2]? = some (.int .i64 O[k].from_) from flat_at Ed.cells 2 ed_len O k 0 _ (List.getElem?_eq_getElem hkl) (by omega))
          have hx1 := Lib.hid (show (O.flatMap Ed.cells)[k * 2 + 1]? = some (.int .i64 O[k].tgt) from flat_at Ed.cells 2 ed_len O k 1 _ (List.getElem?_eq_getElem hkl) (by omega))
          have hkx := Lib.hid (List.getElem?_eq_getElem hkl)
          have hkt := Lib.hid (List.take_succ_eq_append_getElem hkl)
          obtain ⟨x, hx⟩ : ∃ x, O[k] = x := ⟨_, rfl⟩
          rw [hx] at hx0 hx1 hkx hkt
          clear hx hkl
          obtain ⟨xf, xt⟩ := x
          have hless := Lib.hid (fun W => less_any ⟨xf, xt⟩ ⟨ef, et⟩ W)
          unfold val_ed at hless
          simp only at hless hx0 hx1
          cases hbb : ltB ⟨xf, xt⟩ ⟨ef, et⟩ with
          | true =>
            rw [hbb] at hless
            go_wp2_with fail
            have hS := Lib.hid (show (fun W : World => Sep W [vec 36 2 (.slice (some ⟨g, 0, none⟩) n co) n (O.flatMap Ed.cells), old w]) _ from hV.out.drew)
            refine hl_begin (fun W : World => Sep W [vec 36 2 (.slice (some ⟨g, 0, none⟩) n co) n (O.flatMap Ed.cells), old w]) [(0, true), (1, true), (2, true), (3, true), (4, true), (5, true), (6, true), (7, true), (8, true), (9, true), (10, true), (11, true), (12, true), (13, false), (14, true)] (by kernel_rfl) (by kernel_rfl) (by kernel_rfl) rfl (fun _ _ _ _ _ h => h) hS.out ?_
            change HL _ _ _ _ _ _ (World.drew _)
            generalize World.drew _ = wd at *
            refine hl_take ?v15 rfl (by kernel_rfl) ?y15 ?z15
            case y15 => intro W hW; skip; replace hW := Lib.hid hW; go_simp; try rfl
            case z15 =>
            simp only [Act.put, List.setIfInBounds_toArray, List.set_cons_succ, List.set_cons_zero, List.getElem_toArray, List.getElem_cons_zero, List.getElem_cons_succ]
            refine hl_take ?v16 rfl (by kernel_rfl) ?y16 ?z16
            case y16 => intro W hW; skip; replace hW := Lib.hid hW; go_simp; try rfl
            case z16 =>
            simp only [Act.put, List.setIfInBounds_toArray, List.set_cons_succ, List.set_cons_zero, List.getElem_toArray, List.getElem_cons_zero, List.getElem_cons_succ]
            refine hl_take ?v17 rfl (by kernel_rfl) ?y17 ?z17
            case y17 => intro W hW; skip; replace hW := Lib.hid hW; go_simp; try rfl
            case z17 =>
            simp only [Act.put, List.setIfInBounds_toArray, List.set_cons_succ, List.set_cons_zero, List.getElem_toArray, List.getElem_cons_zero, List.getElem_cons_succ]
            refine hl_take ?v18 rfl (by kernel_rfl) ?y18 ?z18
            case y18 => intro W hW; skip; replace hW := Lib.hid hW; go_simp; try rfl
            case z18 =>
            simp only [Act.put, List.setIfInBounds_toArray, List.set_cons_succ, List.set_cons_zero, List.getElem_toArray, List.getElem_cons_zero, List.getElem_cons_succ]
            refine hl_take ?v19 rfl (by kernel_rfl) ?y19 ?z19
            case y19 => intro W hW; skip; replace hW := Lib.hid hW; go_simp; try rfl
            case z19 =>
            simp only [Act.put, List.setIfInBounds_toArray, List.set_cons_succ, List.set_cons_zero, List.getElem_toArray, List.getElem_cons_zero, List.getElem_cons_succ]
            refine hl_take ?v20 rfl (by kernel_rfl) ?y20 ?z20
            case y20 => intro W hW; skip; replace hW := Lib.hid hW; go_simp; try rfl
            case z20 =>
            simp only [Act.put, List.setIfInBounds_toArray, List.set_cons_succ, List.set_cons_zero, List.getElem_toArray, List.getElem_cons_zero, List.getElem_cons_succ]
            refine hl_take ?v21 rfl (by kernel_rfl) ?y21 ?z21
            case y21 => intro W hW; skip; replace hW := Lib.hid hW; go_simp; try rfl
            case z21 =>
            simp only [Act.put, List.setIfInBounds_toArray, List.set_cons_succ, List.set_cons_zero, List.getElem_toArray, List.getElem_cons_zero, List.getElem_cons_succ]
            refine hl_take ?v22 rfl (by kernel_rfl) ?y22 ?z22
            case y22 => intro W hW; skip; replace hW := Lib.hid hW; go_simp; try rfl
            case z22 =>
            simp only [Act.put, List.setIfInBounds_toArray, List.set_cons_succ, List.set_cons_zero, List.getElem_toArray, List.getElem_cons_zero, List.getElem_cons_succ]
            refine hl_take ?v23 rfl (by kernel_rfl) ?y23 ?z23
            case y23 => intro W hW; change Sep W _ at hW; have x0 := (hW.vec_cell hx0.out).1; have x1 := (hW.vec_cell hx1.out).1; have y0 := ((hW.tail.gold.cell (p := ⟨b, off + i * 2, none⟩) hb)).trans c0; have y1 := ((hW.tail.gold.cell (p := ⟨b, off + i * 2 + 1, none⟩) hb)).trans c1; replace hW := Lib.hid hW; go_simp; try rfl
            case z23 =>
            simp only [Act.put, List.setIfInBounds_toArray, List.set_cons_succ, List.set_cons_zero, List.getElem_toArray, List.getElem_cons_zero, List.getElem_cons_succ]
            refine hl_take ?v24 rfl (by kernel_rfl) ?y24 ?z24
            case y24 => intro W hW; skip; replace hW := Lib.hid hW; go_simp; try rfl
            case z24 =>
            simp only [Act.put, List.setIfInBounds_toArray, List.set_cons_succ, List.set_cons_zero, List.getElem_toArray, List.getElem_cons_zero, List.getElem_cons_succ]
            refine hl_take ?v25 rfl (by kernel_rfl) ?y25 ?z25
            case y25 => intro W hW; skip; replace hW := Lib.hid hW; go_simp; try rfl
            case z25 =>
            simp only [Act.put, List.setIfInBounds_toArray, List.set_cons_succ, List.set_cons_zero, List.getElem_toArray, List.getElem_cons_zero, List.getElem_cons_succ]
            refine hl_take ?v26 rfl (by kernel_rfl) ?y26 ?z26
            case y26 => intro W hW; skip; replace hW := Lib.hid hW; go_simp; try rfl
            case z26 =>
            simp only [Act.put, List.setIfInBounds_toArray, List.set_cons_succ, List.set_cons_zero, List.getElem_toArray, List.getElem_cons_zero, List.getElem_cons_succ]
            refine hl_take ?v27 rfl (by kernel_rfl) ?y27 ?z27
            case y27 => intro W hW; change Sep W _ at hW; have x0 := (hW.vec_cell hx0.out).1; have x1 := (hW.vec_cell hx1.out).1; have y0 := ((hW.tail.gold.cell (p := ⟨b, off + i * 2, none⟩) hb)).trans c0; have y1 := ((hW.tail.gold.cell (p := ⟨b, off + i * 2 + 1, none⟩) hb)).trans c1; replace hW := Lib.hid hW; go_simp; try rfl
            case z27 =>
            simp only [Act.put, List.setIfInBounds_toArray, List.set_cons_succ, List.set_cons_zero, List.getElem_toArray, List.getElem_cons_zero, List.getElem_cons_succ]
            refine hl_one rfl (by kernel_rfl) (fun K hK => ?_)
            go_simp
            refine (hless.out wd).mono ?_
            rintro e w3 ⟨rfl, q⟩
            replace hS := Lib.hid (show Sep w3 [vec 36 2 (.slice (some ⟨g, 0, none⟩) n co) n (O.flatMap Ed.cells), old w] from hS.out.below q)
            clear q
            refine hK.out _ _ hS.out ?_
            clear hK K
            try simp only [Act.put, List.setIfInBounds_toArray, List.set_cons_succ, List.set_cons_zero, List.getElem_toArray, List.getElem_cons_zero, List.getElem_cons_succ]
            refine hl_take ?v28 rfl (by kernel_rfl) ?y28 ?z28
            case y28 => intro W hW; skip; replace hW := Lib.hid hW; go_simp; try rfl
            case z28 =>
            simp only [Act.put, List.setIfInBounds_toArray, List.set_cons_succ, List.set_cons_zero, List.getElem_toArray, List.getElem_cons_zero, List.getElem_cons_succ]
            refine hl_done ?_
            clear hV
            replace hV := hS
            clear hS
            go_wp2_with fail
            go_roundg (n - (k + 1))
            case measure => omega
            case rel => exact ⟨k + 1, by omega, rfl, by go_num, Lib.hid (by
              intro y hy
              rw [hkt.out, List.mem_append, List.mem_singleton] at hy
              rcases hy with hy | rfl
              · exact hlow.out y hy
              · exact hbb), hV⟩
          | false =>
            rw [hbb] at hless
            have hkS := Lib.hid (kS_eq O ⟨ef, et⟩ k (by rw [hOn.out]; exact hk) hlow.out (fun y hy => by rw [hkx.out] at hy; injection hy with hy; rw [← hy]; exact hbb))
            go_wp2_with fail
            have hS := Lib.hid (show (fun W : World => Sep W [vec 36 2 (.slice (some ⟨g, 0, none⟩) n co) n (O.flatMap Ed.cells), old w]) _ from hV.out.drew)
            refine hl_begin (fun W : World => Sep W [vec 36 2 (.slice (some ⟨g, 0, none⟩) n co) n (O.flatMap Ed.cells), old w]) [(0, true), (1, true), (2, true), (3, true), (4, true), (5, true), (6, true), (7, true), (8, true), (9, true), (10, true), (11, true), (12, true), (13, false), (14, true)] (by kernel_rfl) (by kernel_rfl) (by kernel_rfl) rfl (fun _ _ _ _ _ h => h) hS.out ?_
            change HL _ _ _ _ _ _ (World.drew _)
            generalize World.drew _ = wd at *
            refine hl_take ?v29 rfl (by kernel_rfl) ?y29 ?z29
            case y29 => intro W hW; skip; replace hW := Lib.hid hW; go_simp; try rfl
            case z29 =>
            simp only [Act.put, List.setIfInBounds_toArray, List.set_cons_succ, List.set_cons_zero, List.getElem_toArray, List.getElem_cons_zero, List.getElem_cons_succ]
            refine hl_take ?v30 rfl (by kernel_rfl) ?y30 ?z30
            case y30 => intro W hW; skip; replace hW := Lib.hid hW; go_simp; try rfl
            case z30 =>
            simp only [Act.put, List.setIfInBounds_toArray, List.set_cons_succ, List.set_cons_zero, List.getElem_toArray, List.getElem_cons_zero, List.getElem_cons_succ]
            refine hl_take ?v31 rfl (by kernel_rfl) ?y31 ?z31
            case y31 => intro W hW; skip; replace hW := Lib.hid hW; go_simp; try rfl
            case z31 =>
            simp only [Act.put, List.setIfInBounds_toArray, List.set_cons_succ, List.set_cons_zero, List.getElem_toArray, List.getElem_cons_zero, List.getElem_cons_succ]
            refine hl_take ?v32 rfl (by kernel_rfl) ?y32 ?z32
            case y32 => intro W hW; skip; replace hW := Lib.hid hW; go_simp; try rfl
            case z32 =>
            simp only [Act.put, List.setIfInBounds_toArray, List.set_cons_succ, List.set_cons_zero, List.getElem_toArray, List.getElem_cons_zero, List.getElem_cons_succ]
            refine hl_take ?v33 rfl (by kernel_rfl) ?y33 ?z33
            case y33 => intro W hW; skip; replace hW := Lib.hid hW; go_simp; try rfl
            case z33 =>
            simp only [Act.put, List.setIfInBounds_toArray, List.set_cons_succ, List.set_cons_zero, List.getElem_toArray, List.getElem_cons_zero, List.getElem_cons_succ]
            refine hl_take ?v34 rfl (by kernel_rfl) ?y34 ?z34
            case y34 => intro W hW; skip; replace hW := Lib.hid hW; go_simp; try rfl
            case z34 =>
            simp only [Act.put, List.setIfInBounds_toArray, List.set_cons_succ, List.set_cons_zero, List.getElem_toArray, List.getElem_cons_zero, List.getElem_cons_succ]
            refine hl_take ?v35 rfl (by kernel_rfl) ?y35 ?z35
            case y35 => intro W hW; skip; replace hW := Lib.hid hW; go_simp; try rfl
            case z35 =>
            simp only [Act.put, List.setIfInBounds_toArray, List.set_cons_succ, List.set_cons_zero, List.getElem_toArray, List.getElem_cons_zero, List.getElem_cons_succ]
            refine hl_take ?v36 rfl (by kernel_rfl) ?y36 ?z36
            case y36 => intro W hW; skip; replace hW := Lib.hid hW; go_simp; try rfl
            case z36 =>
            simp only [Act.put, List.setIfInBounds_toArray, List.set_cons_succ, List.set_cons_zero, List.getElem_toArray, List.getElem_cons_zero, List.getElem_cons_succ]
            refine hl_take ?v37 rfl (by kernel_rfl) ?y37 ?z37
            case y37 => intro W hW; change Sep W _ at hW; have x0 := (hW.vec_cell hx0.out).1; have x1 := (hW.vec_cell hx1.out).1; have y0 := ((hW.tail.gold.cell (p := ⟨b, off + i * 2, none⟩) hb)).trans c0; have y1 := ((hW.tail.gold.cell (p := ⟨b, off + i * 2 + 1, none⟩) hb)).trans c1; replace hW := Lib.hid hW; go_simp; try rfl
            case z37 =>
            simp only [Act.put, List.setIfInBounds_toArray, List.set_cons_succ, List.set_cons_zero, List.getElem_toArray, List.getElem_cons_zero, List.getElem_cons_succ]
            refine hl_take ?v38 rfl (by kernel_rfl) ?y38 ?z38
            case y38 => intro W hW; skip; replace hW := Lib.hid hW; go_simp; try rfl
            case z38 =>
            simp only [Act.put, List.setIfInBounds_toArray, List.set_cons_succ, List.set_cons_zero, List.getElem_toArray, List.getElem_cons_zero, List.getElem_cons_succ]
            refine hl_take ?v39 rfl (by kernel_rfl) ?y39 ?z39
            case y39 => intro W hW; skip; replace hW := Lib.hid hW; go_simp; try rfl
            case z39 =>
            simp only [Act.put, List.setIfInBounds_toArray, List.set_cons_succ, List.set_cons_zero, List.getElem_toArray, List.getElem_cons_zero, List.getElem_cons_succ]
            refine hl_take ?v40 rfl (by kernel_rfl) ?y40 ?z40
            case y40 => intro W hW; skip; replace hW := Lib.hid hW; go_simp; try rfl
            case z40 =>
            simp only [Act.put, List.setIfInBounds_toArray, List.set_cons_succ, List.set_cons_zero, List.getElem_toArray, List.getElem_cons_zero, List.getElem_cons_succ]
            refine hl_take ?v41 rfl (by kernel_rfl) ?y41 ?z41
            case y41 => intro W hW; change Sep W _ at hW; have x0 := (hW.vec_cell hx0.out).1; have x1 := (hW.vec_cell hx1.out).1; have y0 := ((hW.tail.gold.cell (p := ⟨b, off + i * 2, none⟩) hb)).trans c0; have y1 := ((hW.tail.gold.cell (p := ⟨b, off + i * 2 + 1, none⟩) hb)).trans c1; replace hW := Lib.hid hW; go_simp; try rfl
            case z41 =>
            simp only [Act.put, List.setIfInBounds_toArray, List.set_cons_succ, List.set_cons_zero, List.getElem_toArray, List.getElem_cons_zero, List.getElem_cons_succ]
            refine hl_one rfl (by kernel_rfl) (fun K hK => ?_)
            go_simp
            refine (hless.out wd).mono ?_
            rintro e w3 ⟨rfl, q⟩
            replace hS := Lib.hid (show Sep w3 [vec 36 2 (.slice (some ⟨g, 0, none⟩) n co) n (O.flatMap Ed.cells), old w] from hS.out.below q)
            clear q
            refine hK.out _ _ hS.out ?_
            clear hK K
            try simp only [Act.put, List.setIfInBounds_toArray, List.set_cons_succ, List.set_cons_zero, List.getElem_toArray, List.getElem_cons_zero, List.getElem_cons_succ]
            refine hl_take ?v42 rfl (by kernel_rfl) ?y42 ?z42
            case y42 => intro W hW; skip; replace hW := Lib.hid hW; go_simp; try rfl
            case z42 =>
            simp only [Act.put, List.setIfInBounds_toArray, List.set_cons_succ, List.set_cons_zero, List.getElem_toArray, List.getElem_cons_zero, List.getElem_cons_succ]
            refine hl_done ?_
            clear hV
            replace hV := hS
            clear hS
            go_wp2_with fail
            have x0 := (hV.out.vec_cell hx0.out).1
            have x1 := (hV.out.vec_cell hx1.out).1
            have y0 := ((hV.out.tail.gold.cell (p := ⟨b, off + i * 2, none⟩) hb)).trans c0
            have y1 := ((hV.out.tail.gold.cell (p := ⟨b, off + i * 2 + 1, none⟩) hb)).trans c1
            have hqe := fun W => run_eql_ed xf ef xt et W
            rw [eqB_ed_iff] at hqe
            have hco := hV.out.vec_rl.2
            have hkco : ¬ co = k := by obtain ⟨_, _, hv, hc, _⟩ := hco; injection hv with _ _ e3; omega
            have hkc2 : k ≤ co := by obtain ⟨_, _, hv, hc, _⟩ := hco; injection hv with _ _ e3; omega
            clear hco
            by_cases heq : xf = ef ∧ xt = et
            · rw [decide_eq_true heq] at hqe
              have hins := Lib.hid (show insS O ⟨ef, et⟩ = O by unfold insS; rw [hkS.out, hkx.out, heq.1, heq.2, if_pos rfl])
              clear heq
              go_wp2_with fail
              go_quiet (fail)
              go_wp2_with fail
              go_roundg (n0 - (i + 1))
              case measure => omega
              case rel => exact ⟨i + 1, O, some ⟨g, 0, none⟩, co, n, by omega, rfl, rfl, by go_num, Lib.hid (by rw [hO2.out, hins.out]), hOn, by omega, fun h => absurd h (by omega), Lib.hid (hV.out.drewN _)⟩
            · have hins := Lib.hid (show insS O ⟨ef, et⟩ = O.take k ++ [⟨ef, et⟩] ++ O.drop k by
                unfold insS
                rw [hkS.out, if_neg]
                rw [hkx.out]
                intro h
                injection h with h
                injection h with h1 h2
                exact heq ⟨h1, h2⟩)
              rw [decide_eq_false heq] at hqe
              clear heq
              go_wp2_with fail
              go_quiet (fail)
              go_wp2_with (at_builtin; first | (refine wpList_append_sep ((fresh_ed _).graft (hV.out.drewN _)) rfl _ _ 22 rfl i0 _ 16 Tryz.underlying22 hi0 hz0 hz1 hz2 rfl (by decide) rfl k ((O.take k).flatMap Ed.cells) (src_take ((fresh_ed _).graft (hV.out.drewN _)).to1 hOn.out hk) (h1d.out _) (by simp only [maxLen]; omega) (by omega) ?_; intro na1 nc1 w4 q4; simp only [Nat.zero_add, List.nil_append] at q4; have t0 := (q4.tail.tail.gold.cell (p := ⟨b, off + i * 2, none⟩) hb).trans c0; have t1 := (q4.tail.tail.gold.cell (p := ⟨b, off + i * 2 + 1, none⟩) hb).trans c1; replace q4 := Lib.hid q4) | (refine wpList_append_sep (q4.out.allocG _) rfl _ _ 22 rfl i0 _ 16 Tryz.underlying22 hi0 hz0 hz1 hz2 rfl (by decide) rfl 1 [.int .i64 ef, .int .i64 et] (srcA_cells _ _ _ _ 2 rfl) (h1c.out _ _) (by simp only [maxLen]; omega) (by omega) ?_; intro na2 nc2 w5 q5; replace q5 := Lib.hid q5) | (refine wpList_append_sep q5.out rfl _ _ 22 rfl i0 _ 16 Tryz.underlying22 hi0 hz0 hz1 hz2 rfl (by decide) rfl (n - k) ((O.drop k).flatMap Ed.cells) (src_drop q5.out.to1 hOn.out hk) (h1d.out _) (by simp only [maxLen]; omega) (by omega) ?_; intro na3 nc3 w6 q6; replace q6 := Lib.hid q6))
              go_roundg (n0 - (i + 1))
              case measure => omega
              case rel => exact ⟨i + 1, insS O ⟨ef, et⟩, na3, nc3, k + 1 + (n - k), by omega, rfl, by simp, by go_num, Lib.hid hO2.out.symm, Lib.hid (by rw [hins.out]; simp [hOn.out]; omega), by omega, fun h => absurd h (by omega), Lib.hid (by have h := q6.out.drop1; rw [hins.out, List.flatMap_append, List.flatMap_append]; exact h)⟩
        · obtain rfl : k = n := by omega
          have hOt := Lib.hid (show O.take k = O by rw [← hOn.out, List.take_length])
          rw [hOt.out] at hlow
          have hins := Lib.hid (show insS O ⟨ef, et⟩ = O ++ [⟨ef, et⟩] by
            have hkS := kS_eq O ⟨ef, et⟩ k (by rw [hOn.out]; exact Nat.le_refl _) (by rw [hOt.out]; exact hlow.out) (fun y hy => by rw [List.getElem?_eq_none (by rw [hOn.out]; exact Nat.le_refl _)] at hy; cases hy)
            unfold insS
            rw [hkS, if_neg (by rw [List.getElem?_eq_none (by rw [hOn.out]; exact Nat.le_refl _)]; simp), hOt.out, List.drop_eq_nil_of_le (by rw [hOn.out]; exact Nat.le_refl _), List.append_nil])
          have kd : decide ((k : Int) < (k : Int)) = false := by simp
          have hco := hV.out.vec_rl.2
          have hkc2 : k ≤ co := by obtain ⟨_, _, hv, hc, _⟩ := hco; injection hv with _ _ e3; omega
          clear hco
          by_cases hk0 : k = 0
          · subst hk0
            obtain ⟨rfl, rfl⟩ := hnil rfl
            go_wp2_with fail
            go_quiet (fail)
            go_wp2_with fail
            go_quiet (fail)
            go_wp2_with (at_builtin; first | (refine wpList_append_sep ((fresh_ed _).graft (hV.out.drewN _)) rfl _ _ 22 rfl i0 _ 16 Tryz.underlying22 hi0 hz0 hz1 hz2 rfl (by decide) rfl 0 ((O.take 0).flatMap Ed.cells) (src_take ((fresh_ed _).graft (hV.out.drewN _)).to1 hOn.out (Nat.le_refl _)) (h1d.out _) (by simp only [maxLen]; omega) (by omega) ?_; intro na1 nc1 w4 q4; simp only [Nat.zero_add, List.nil_append] at q4; have t0 := (q4.tail.tail.gold.cell (p := ⟨b, off + i * 2, none⟩) hb).trans c0; have t1 := (q4.tail.tail.gold.cell (p := ⟨b, off + i * 2 + 1, none⟩) hb).trans c1; replace q4 := Lib.hid q4) | (refine wpList_append_sep (q4.out.allocG _) rfl _ _ 22 rfl i0 _ 16 Tryz.underlying22 hi0 hz0 hz1 hz2 rfl (by decide) rfl 1 [.int .i64 ef, .int .i64 et] (srcA_cells _ _ _ _ 2 rfl) (h1c.out _ _) (by simp only [maxLen]; omega) (by omega) ?_; intro na2 nc2 w5 q5; (try simp only [Nat.zero_add] at q5); replace q5 := Lib.hid q5) | (refine wpList_append_sep q5.out rfl _ _ 22 rfl i0 _ 16 Tryz.underlying22 hi0 hz0 hz1 hz2 rfl (by decide) rfl 0 [] (.inl ⟨rfl, rfl, rfl⟩) (by simp) (by simp only [maxLen]; omega) (by omega) ?_; intro na3 nc3 w6 q6; (try simp only [Nat.add_zero, List.append_nil] at q6); replace q6 := Lib.hid q6))
            go_roundg (n0 - (i + 1))
            case measure => omega
            case rel => exact ⟨i + 1, insS O ⟨ef, et⟩, na3, nc3, 1, by omega, rfl, by simp, by go_num, Lib.hid hO2.out.symm, Lib.hid (by rw [hins.out]; simp [hOn.out]), by omega, fun h => absurd h (by omega), Lib.hid (by have h := q6.out.drop1; rw [hins.out, List.flatMap_append]; rw [hOt.out] at h; exact h)⟩
          · obtain ⟨g, cap, cur, hgv, _⟩ := hV.out.gvec.2.resolve_left (by rintro ⟨_, h⟩; omega)
            injection hgv with e1 _ e3
            subst e1 e3
            have hk3 : ¬ (k : Int) = 0 := by omega
            by_cases hcc : co = k
            · subst hcc
              go_wp2_with fail
              go_quiet (fail)
              go_wp2_with fail
              go_quiet (fail)
              go_wp2_with (at_builtin; first | (refine wpList_append_sep ((fresh_ed _).graft (hV.out.drewN _)) rfl _ _ 22 rfl i0 _ 16 Tryz.underlying22 hi0 hz0 hz1 hz2 rfl (by decide) rfl co ((O.take co).flatMap Ed.cells) (src_take ((fresh_ed _).graft (hV.out.drewN _)).to1 hOn.out (Nat.le_refl _)) (h1d.out _) (by simp only [maxLen]; omega) (by omega) ?_; intro na1 nc1 w4 q4; simp only [Nat.zero_add, List.nil_append] at q4; have t0 := (q4.tail.tail.gold.cell (p := ⟨b, off + i * 2, none⟩) hb).trans c0; have t1 := (q4.tail.tail.gold.cell (p := ⟨b, off + i * 2 + 1, none⟩) hb).trans c1; replace q4 := Lib.hid q4) | (refine wpList_append_sep (q4.out.allocG _) rfl _ _ 22 rfl i0 _ 16 Tryz.underlying22 hi0 hz0 hz1 hz2 rfl (by decide) rfl 1 [.int .i64 ef, .int .i64 et] (srcA_cells _ _ _ _ 2 rfl) (h1c.out _ _) (by simp only [maxLen]; omega) (by omega) ?_; intro na2 nc2 w5 q5; (try simp only [Nat.zero_add] at q5); replace q5 := Lib.hid q5) | (refine wpList_append_sep q5.out rfl _ _ 22 rfl i0 _ 16 Tryz.underlying22 hi0 hz0 hz1 hz2 rfl (by decide) rfl 0 [] (.inr ⟨_, _, rfl, rfl, fun j u hj => by simp at hj⟩) (by simp) (by simp only [maxLen]; omega) (by omega) ?_; intro na3 nc3 w6 q6; (try simp only [Nat.add_zero, List.append_nil] at q6); replace q6 := Lib.hid q6))
              go_roundg (n0 - (i + 1))
              case measure => omega
              case rel => exact ⟨i + 1, insS O ⟨ef, et⟩, na3, nc3, co + 1, by omega, rfl, by simp, by go_num, Lib.hid hO2.out.symm, Lib.hid (by rw [hins.out]; simp [hOn.out]), by omega, fun h => absurd h (by omega), Lib.hid (by have h := q6.out.drop1; rw [hins.out, List.flatMap_append]; rw [hOt.out] at h; exact h)⟩
            · go_wp2_with fail
              go_quiet (fail)
              go_wp2_with fail
              go_quiet (fail)
              go_wp2_with (at_builtin; first | (refine wpList_append_sep ((fresh_ed _).graft (hV.out.drewN _)) rfl _ _ 22 rfl i0 _ 16 Tryz.underlying22 hi0 hz0 hz1 hz2 rfl (by decide) rfl k ((O.take k).flatMap Ed.cells) (src_take ((fresh_ed _).graft (hV.out.drewN _)).to1 hOn.out (Nat.le_refl _)) (h1d.out _) (by simp only [maxLen]; omega) (by omega) ?_; intro na1 nc1 w4 q4; simp only [Nat.zero_add, List.nil_append] at q4; have t0 := (q4.tail.tail.gold.cell (p := ⟨b, off + i * 2, none⟩) hb).trans c0; have t1 := (q4.tail.tail.gold.cell (p := ⟨b, off + i * 2 + 1, none⟩) hb).trans c1; replace q4 := Lib.hid q4) | (refine wpList_append_sep (q4.out.allocG _) rfl _ _ 22 rfl i0 _ 16 Tryz.underlying22 hi0 hz0 hz1 hz2 rfl (by decide) rfl 1 [.int .i64 ef, .int .i64 et] (srcA_cells _ _ _ _ 2 rfl) (h1c.out _ _) (by simp only [maxLen]; omega) (by omega) ?_; intro na2 nc2 w5 q5; (try simp only [Nat.zero_add] at q5); replace q5 := Lib.hid q5) | (refine wpList_append_sep q5.out rfl _ _ 22 rfl i0 _ 16 Tryz.underlying22 hi0 hz0 hz1 hz2 rfl (by decide) rfl 0 [] (.inr ⟨_, _, rfl, rfl, fun j u hj => by simp at hj⟩) (by simp) (by simp only [maxLen]; omega) (by omega) ?_; intro na3 nc3 w6 q6; (try simp only [Nat.add_zero, List.append_nil] at q6); replace q6 := Lib.hid q6))
              go_roundg (n0 - (i + 1))
              case measure => omega
              case rel => exact ⟨i + 1, insS O ⟨ef, et⟩, na3, nc3, k + 1, by omega, rfl, by simp, by go_num, Lib.hid hO2.out.symm, Lib.hid (by rw [hins.out]; simp [hOn.out]), by omega, fun h => absurd h (by omega), Lib.hid (by have h := q6.out.drop1; rw [hins.out, List.flatMap_append]; rw [hOt.out] at h; exact h)⟩
    · have hin : i = n0 := by omega
      subst hin
      have hfn : O = sdE L := by
        rw [hO.out, ← hfin.out, ← hn0.out, List.take_length]
      subst hfn
      have hOn2 := hOn.out
      subst hOn2
      go_wp2_with fail
      go_ret
      exact ⟨ao, co, rfl, hV.out⟩
end Go.Proofs.YthbamhfnemdebaaGreat
namespace Go.Proofs.YthbamhfnemdebaaGreat
open Go.RowKit
/-- One level looked through: none if the end is met. -/
def farI (now : List Int) (tgt : Int) : List Ed → List Int → List Int → Option (List Int × List Int)
  | [], sn, nx => some (sn, nx)
  | e :: l, sn, nx => if e.from_ ∉ now ∨ e.tgt ∈ sn then farI now tgt l sn nx else if e.tgt = tgt then none else farI now tgt l (sn ++ [e.tgt]) (nx ++ [e.tgt])
theorem farI_none (now : List Int) (tgt : Int) : ∀ (l : List Ed) (sn nx : List Int), farI now tgt l sn nx = none → ∃ e ∈ l, e.from_ ∈ now ∧ e.tgt = tgt
  | [], _, _, h => by cases h
  | e :: l, sn, nx, h => by
    unfold farI at h
    split at h
    · obtain ⟨x, hx, h2⟩ := farI_none now tgt l _ _ h
      exact ⟨x, List.mem_cons_of_mem _ hx, h2⟩
    · rename_i hc
      split at h
      · rename_i ht
        exact ⟨e, List.mem_cons_self .., Classical.byContradiction fun h => hc (.inl h), ht⟩
      · obtain ⟨x, hx, h2⟩ := farI_none now tgt l _ _ h
        exact ⟨x, List.mem_cons_of_mem _ hx, h2⟩
/-- What a level adds. -/
theorem farI_some (now : List Int) (tgt : Int) : ∀ (l : List Ed) (sn nx sn' nx' : List Int), farI now tgt l sn nx = some (sn', nx') →
    ∃ ad, sn' = sn ++ ad ∧ nx' = nx ++ ad ∧ (∀ x ∈ ad, x ≠ tgt ∧ ∃ e ∈ l, e.from_ ∈ now ∧ e.tgt = x) ∧ (∀ e ∈ l, e.from_ ∈ now → e.tgt ∈ sn') ∧ (sn.Nodup → sn'.Nodup)
  | [], sn, nx, sn', nx', h => by
    unfold farI at h
    injection h with h
    injection h with h1 h2
    exact ⟨[], by simp [h1], by simp [h2], by simp, by simp, fun h => h1 ▸ h⟩
  | e :: l, sn, nx, sn', nx', h => by
    unfold farI at h
    split at h
    · rename_i hc
      obtain ⟨ad, h1, h2, h3, h4, h5⟩ := farI_some now tgt l _ _ _ _ h
      refine ⟨ad, h1, h2, fun x hx => ?_, fun x hx hf => ?_, h5⟩
      · obtain ⟨h6, y, hy, h7⟩ := h3 x hx
        exact ⟨h6, y, List.mem_cons_of_mem _ hy, h7⟩
      · rcases List.mem_cons.1 hx with rfl | hx
        · rw [h1]
          exact List.mem_append_left _ (hc.resolve_left fun h => h hf)
        · exact h4 x hx hf
    · rename_i hc
      have hf : e.from_ ∈ now := Classical.byContradiction fun h => hc (.inl h)
      have hs : e.tgt ∉ sn := fun h => hc (.inr h)
      split at h
      · cases h
      · rename_i ht
        obtain ⟨ad, h1, h2, h3, h4, h5⟩ := farI_some now tgt l _ _ _ _ h
        refine ⟨e.tgt :: ad, by rw [h1]; simp, by rw [h2]; simp, fun x hx => ?_, fun x hx hfx => ?_, fun hn => h5 ?_⟩
        · rcases List.mem_cons.1 hx with rfl | hx
          · exact ⟨ht, e, List.mem_cons_self .., hf, rfl⟩
          · obtain ⟨h6, y, hy, h7⟩ := h3 x hx
            exact ⟨h6, y, List.mem_cons_of_mem _ hy, h7⟩
        · rcases List.mem_cons.1 hx with rfl | hx
          · rw [h1]; simp
          · exact h4 x hx hfx
        · rw [List.nodup_append]
          refine ⟨hn, by simp, fun a ha b hb => ?_⟩
          simp only [List.mem_singleton] at hb
          subst hb
          exact fun h => hs (h ▸ ha)
/-- What holds ahead of level n. -/
structure FarJ (L : List Ed) (fr tgt : Int) (now sn : List Int) (n : Nat) : Prop where
  n0 : 0 < n
  nw : ∀ y ∈ now, (n = 1 ∧ y = fr) ∨ (1 < n ∧ Wk (nxL L) (n - 1) fr y)
  seen : ∀ x ∈ sn, ∃ k, 0 < k ∧ k < n ∧ Wk (nxL L) k fr x
  back : ∀ k x, 0 < k → k < n → Wk (nxL L) k fr x → x ∈ sn ∧ x ≠ tgt
  front : (n = 1 → fr ∈ now) ∧ ∀ x, 1 < n → Wk (nxL L) (n - 1) fr x → x ∈ now ∨ ∃ k, 0 < k ∧ k < n - 1 ∧ Wk (nxL L) k fr x
theorem farJ_start (L : List Ed) (fr tgt : Int) : FarJ L fr tgt [fr] [] 1 :=
  ⟨by omega, by simp, by simp, fun k x h1 h2 _ => by omega, by simp, fun x h => by omega⟩
/-- Where one is come to at length n, who stands before it. -/
theorem wk_pred {L : List Ed} {fr tgt : Int} {now sn : List Int} {n : Nat} (J : FarJ L fr tgt now sn n) {x : Int} (h : Wk (nxL L) n fr x) : (∃ y ∈ now, ⟨y, x⟩ ∈ L) ∨ ∃ k, 0 < k ∧ k < n ∧ Wk (nxL L) k fr x := by
  rcases h.last with ⟨rfl, hb⟩ | ⟨y, h1, h2, h3⟩
  · exact .inl ⟨fr, J.front.1 rfl, (rowL_mem _ _ _).1 hb⟩
  · rcases J.front.2 y h1 h2 with h4 | ⟨k, hk0, hk, hw⟩
    · exact .inl ⟨y, h4, (rowL_mem _ _ _).1 h3⟩
    · exact .inr ⟨k + 1, by omega, by omega, hw.snoc h3⟩
theorem farJ_step {L : List Ed} {fr tgt : Int} {now sn sn' nx' : List Int} {n : Nat} (J : FarJ L fr tgt now sn n) (h : farI now tgt L sn [] = some (sn', nx')) : FarJ L fr tgt nx' sn' (n + 1) := by
  obtain ⟨ad, h1, h2, h3, h4, _⟩ := farI_some now tgt L _ _ _ _ h
  rw [List.nil_append] at h2
  subst h1 h2
  have hw : ∀ x ∈ nx', Wk (nxL L) n fr x := by
    intro x hx
    obtain ⟨_, e, he, hf, rfl⟩ := h3 x hx
    have hr : e.tgt ∈ rowL (nxL L) e.from_ := (rowL_mem _ _ _).2 he
    rcases J.nw _ hf with ⟨rfl, hy⟩ | ⟨h5, h6⟩
    · rw [hy] at hr; exact .one hr
    · have := h6.snoc hr
      rwa [show n - 1 + 1 = n by omega] at this
  have hseen : ∀ x ∈ sn ++ nx', ∃ k, 0 < k ∧ k < n + 1 ∧ Wk (nxL L) k fr x := by
    intro x hx
    rcases List.mem_append.1 hx with hx | hx
    · obtain ⟨k, h5, h6, h7⟩ := J.seen x hx
      exact ⟨k, h5, by omega, h7⟩
    · exact ⟨n, J.n0, by omega, hw x hx⟩
  have hto : ∀ x ∈ sn ++ nx', x ≠ tgt := by
    intro x hx
    rcases List.mem_append.1 hx with hx | hx
    · obtain ⟨k, h5, h6, h7⟩ := J.seen x hx
      exact (J.back k x h5 h6 h7).2
    · exact (h3 x hx).1
  have hback : ∀ k x, 0 < k → k < n + 1 → Wk (nxL L) k fr x → x ∈ sn ++ nx' := by
    intro k x hk0 hk hx
    by_cases hkn : k < n
    · exact List.mem_append_left _ (J.back k x hk0 hkn hx).1
    · obtain rfl : k = n := by omega
      rcases wk_pred J hx with ⟨y, hy, he⟩ | ⟨k', h5, h6, h7⟩
      · exact h4 _ he hy
      · exact List.mem_append_left _ (J.back k' x h5 h6 h7).1
  refine ⟨by omega, fun y hy => .inr ⟨by have := J.n0; omega, hw y hy⟩, hseen, fun k x h5 h6 h7 => ⟨hback k x h5 h6 h7, hto x (hback k x h5 h6 h7)⟩, fun h => by have := J.n0; omega, fun x h5 h6 => ?_⟩
  rcases List.mem_append.1 (hback n x J.n0 (by omega) h6) with h7 | h7
  · obtain ⟨k, h8, h9, h10⟩ := J.seen x h7
    exact .inr ⟨k, h8, by omega, h10⟩
  · exact .inl h7
theorem farJ_end {L : List Ed} {fr tgt : Int} {sn : List Int} {n : Nat} (J : FarJ L fr tgt [] sn n) : ∀ k, ¬ Wk (nxL L) k fr tgt := by
  have h1 : 1 < n := by
    have h0 := J.n0
    refine Nat.lt_of_le_of_ne h0 fun h => ?_
    have := J.front.1 h.symm
    simp at this
  have low : ∀ m x, 0 < m → m < n → Wk (nxL L) m fr x → ∃ k, 0 < k ∧ k < n - 1 ∧ Wk (nxL L) k fr x := by
    intro m x h2 h3 h4
    by_cases h5 : m < n - 1
    · exact ⟨m, h2, h5, h4⟩
    · obtain rfl : m = n - 1 := by omega
      rcases J.front.2 x h1 h4 with h6 | h6
      · simp at h6
      · exact h6
  have all : ∀ k x, Wk (nxL L) k fr x → ∃ k', 0 < k' ∧ k' < n ∧ Wk (nxL L) k' fr x := by
    intro k
    induction k with
    | zero => intro x h; have := h.pos; omega
    | succ k ih =>
      intro x h
      rcases h.last with ⟨h2, hb⟩ | ⟨y, h2, h3, hb⟩
      · exact ⟨1, by omega, h1, .one hb⟩
      · rw [Nat.add_sub_cancel] at h3
        obtain ⟨m, h4, h5, h6⟩ := ih y h3
        obtain ⟨m', h7, h8, h9⟩ := low m y h4 h5 h6
        exact ⟨m' + 1, by omega, by omega, h9.snoc hb⟩
  intro k h
  obtain ⟨k', h2, h3, h4⟩ := all k tgt h
  exact (J.back k' tgt h2 h3 h4).2 rfl
/-- What far tells. -/
def FarIs (L : List Ed) (fr tgt : Int) (r : Int) : Prop := (r = -1 ∧ ∀ k, ¬ Wk (nxL L) k fr tgt) ∨ ∃ n : Nat, r = (n : Int) ∧ Wk (nxL L) n fr tgt ∧ ∀ k, k < n → ¬ Wk (nxL L) k fr tgt
theorem farIs_met {L : List Ed} {fr tgt : Int} {now sn : List Int} {n : Nat} (J : FarJ L fr tgt now sn n) (h : farI now tgt L sn [] = none) : FarIs L fr tgt (n : Int) := by
  obtain ⟨e, he, hf, ht⟩ := farI_none now tgt L _ _ h
  have hr : tgt ∈ rowL (nxL L) e.from_ := by rw [← ht]; exact (rowL_mem _ _ _).2 he
  refine .inr ⟨n, rfl, ?_, fun k hk hw => (J.back k tgt hw.pos hk hw).2 rfl⟩
  rcases J.nw _ hf with ⟨rfl, hy⟩ | ⟨h5, h6⟩
  · rw [hy] at hr; exact .one hr
  · have := h6.snoc hr
    rwa [show n - 1 + 1 = n by omega] at this
theorem farIs_uniq {L : List Ed} {fr tgt r r' : Int} (h : FarIs L fr tgt r) (h' : FarIs L fr tgt r') : r = r' := by
  rcases h with ⟨rfl, h1⟩ | ⟨n, rfl, h1, h2⟩
  · rcases h' with ⟨rfl, _⟩ | ⟨n', rfl, h3, _⟩
    · rfl
    · exact absurd h3 (h1 _)
  · rcases h' with ⟨rfl, h3⟩ | ⟨n', rfl, h3, h4⟩
    · exact absurd h1 (h3 _)
    · rcases Nat.lt_trichotomy n n' with h5 | h5 | h5
      · exact absurd h1 (h4 n h5)
      · rw [h5]
      · exact absurd h3 (h2 n' h5)
end Go.Proofs.YthbamhfnemdebaaGreat
