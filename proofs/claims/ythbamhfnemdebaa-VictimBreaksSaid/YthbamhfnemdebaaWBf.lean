/-
  Plain: in what order ways comes to whom. No condition.
-/
import Derived.Test.YthbamhfnemdebaaWPf
namespace Go.Proofs.Ythbamhfnemdebaa
open Go.RowKit
/-- All that is come to from those of a list, one after the other. -/
def RQl (N : Rw) (Q : List Int) : Bk := Q.foldl (fun bk a => nbr a (rowL N a) bk) []
theorem RQl_snoc (N : Rw) (Q : List Int) (a : Int) : RQl N (Q ++ [a]) = nbr a (rowL N a) (RQl N Q) := by
  unfold RQl
  rw [List.foldl_append]
  rfl
theorem Bfs.closed {N : Rw} {fr : Int} {bk r : Bk} {td : List Int} (h : Bfs N bk td r) : ∀ pr, pr ++ td = fr :: bk.map (·.1) → bk = RQl N pr → r = RQl N (fr :: r.map (·.1)) := by
  induction h with
  | nil =>
    intro pr h1 h2
    rw [List.append_nil] at h1
    rw [← h1]
    exact h2
  | @step bk a td r _ ih =>
    intro pr h1 h2
    refine ih (pr ++ [a]) ?_ (by rw [RQl_snoc, ← h2])
    obtain ⟨ex, he⟩ := nbr_keys a (rowL N a) bk
    rw [he, List.drop_left, List.map_append, ← List.cons_append, ← h1]
    simp
theorem wyN_closed (N : Rw) (fr : Int) : wyN N fr = RQl N (fr :: (wyN N fr).map (·.1)) := (wyN_steps N fr).closed [] rfl rfl
/-- Who is the first with an edge to one. -/
def fI (N : Rw) (Q : List Int) (x : Int) : Nat := Q.findIdx fun y => decide (x ∈ rowL N y)
theorem fI_snoc (N : Rw) (Q : List Int) (a x : Int) (h : fI N Q x < Q.length) : fI N (Q ++ [a]) x = fI N Q x := by
  unfold fI at *
  rw [List.findIdx_append, if_pos h]
theorem fI_lt {N : Rw} {Q : List Int} {x : Int} : fI N Q x < Q.length ↔ ∃ y ∈ Q, x ∈ rowL N y := by
  unfold fI
  rw [List.findIdx_lt_length]
  simp
theorem fI_new (N : Rw) (Q : List Int) (a x : Int) (h : ¬ fI N Q x < Q.length) (hx : x ∈ rowL N a) : fI N (Q ++ [a]) x = Q.length := by
  unfold fI at *
  rw [List.findIdx_append, if_neg h]
  simp [List.findIdx_cons, hx]
/-- Neighbours of one, in order. -/
theorem nbr_filter (a : Int) : ∀ (ts : List Int) (bk : Bk), ts.Nodup → nbr a ts bk = bk ++ (ts.filter fun t => !hasL bk t).map fun t => (t, a)
  | [], bk, _ => by simp [nbr]
  | t :: ts, bk, hn => by
    rw [List.nodup_cons] at hn
    have e : nbr a (t :: ts) bk = nbr a ts (if hasL bk t then bk else bk ++ [(t, a)]) := rfl
    rw [e, nbr_filter a ts _ hn.2]
    cases hh : hasL bk t with
    | true => simp [hh]
    | false =>
      rw [if_neg (by simp), List.filter_cons_of_pos (by simp [hh]), List.append_assoc]
      congr 1
      rw [List.map_cons, List.singleton_append]
      congr 2
      refine List.filter_congr fun x hx => ?_
      have hne : x ≠ t := fun e => hn.1 (e ▸ hx)
      have : hasL (bk ++ [(t, a)]) x = hasL bk x := by
        unfold hasL
        rw [List.any_append]
        simp [Ne.symm hne]
      rw [this]
/-- What is come to: whom, in which order, from whom. -/
structure InQ (N : Rw) (Q : List Int) : Prop where
  mem : ∀ x, x ∈ (RQl N Q).map (·.1) ↔ fI N Q x < Q.length
  par : ∀ p ∈ RQl N Q, Q[fI N Q p.1]? = some p.2
  pw : (RQl N Q).Pairwise fun p q => fI N Q p.1 < fI N Q q.1 ∨ fI N Q p.1 = fI N Q q.1 ∧ p.1 < q.1
theorem inQ (N : Rw) (hs : ∀ a, (rowL N a).Pairwise (· < ·)) (Q : List Int) : InQ N Q := by
  have key : ∀ R : List Int, InQ N R.reverse := by
    intro R
    induction R with
    | nil => exact ⟨by simp [RQl, fI], by simp [RQl], by simp [RQl]⟩
    | cons a R ih =>
      rw [List.reverse_cons]
      generalize R.reverse = Q at *
      obtain ⟨h1, h2, h3⟩ := ih
      have hnd : (rowL N a).Nodup := (hs a).imp fun h => by omega
      have e := nbr_filter a (rowL N a) (RQl N Q) hnd
      have hnew : ∀ t, (!hasL (RQl N Q) t) = true → ¬ fI N Q t < Q.length := by
        intro t ht hl
        rw [← h1, ← hasL_iff] at hl
        rw [hl] at ht
        cases ht
      have hold : ∀ p ∈ RQl N Q, fI N (Q ++ [a]) p.1 = fI N Q p.1 ∧ fI N Q p.1 < Q.length := by
        intro p hp
        have hl := (h1 p.1).1 (List.mem_map.2 ⟨p, hp, rfl⟩)
        exact ⟨fI_snoc N Q a p.1 hl, hl⟩
      refine ⟨fun x => ?_, fun p hp => ?_, ?_⟩
      · rw [RQl_snoc, nbr_mem, h1, fI_lt, fI_lt]
        constructor
        · rintro (⟨y, hy, hx⟩ | hx)
          · exact ⟨y, List.mem_append_left _ hy, hx⟩
          · exact ⟨a, by simp, hx⟩
        · rintro ⟨y, hy, hx⟩
          rcases List.mem_append.1 hy with hy | hy
          · exact .inl ⟨y, hy, hx⟩
          · simp only [List.mem_singleton] at hy
            subst hy
            exact .inr hx
      · rw [RQl_snoc, e] at hp
        rcases List.mem_append.1 hp with hp | hp
        · obtain ⟨h4, h5⟩ := hold p hp
          rw [h4, List.getElem?_append_left h5]
          exact h2 p hp
        · obtain ⟨t, ht, rfl⟩ := List.mem_map.1 hp
          rw [List.mem_filter] at ht
          simp only
          rw [fI_new N Q a t (hnew t ht.2) ht.1, List.getElem?_append_right (Nat.le_refl _)]
          simp
      · rw [RQl_snoc, e, List.pairwise_append]
        refine ⟨?_, ?_, fun p hp q hq => ?_⟩
        · refine List.Pairwise.imp_of_mem (fun {p q} hp hq h => ?_) h3
          rw [(hold p hp).1, (hold q hq).1]
          exact h
        · rw [List.pairwise_map]
          refine List.Pairwise.imp_of_mem (fun {p q} hp hq h => ?_) ((hs a).filter _)
          rw [List.mem_filter] at hp hq
          simp only
          rw [fI_new N Q a p (hnew p hp.2) hp.1, fI_new N Q a q (hnew q hq.2) hq.1]
          exact .inr ⟨rfl, h⟩
        · obtain ⟨t, ht, rfl⟩ := List.mem_map.1 hq
          rw [List.mem_filter] at ht
          obtain ⟨h4, h5⟩ := hold p hp
          simp only
          rw [h4, fI_new N Q a t (hnew t ht.2) ht.1]
          exact .inl h5
  have := key Q.reverse
  rwa [List.reverse_reverse] at this
end Go.Proofs.Ythbamhfnemdebaa
