/-
  Plain: the way back that ways tells is a tree. No condition.
-/
import Derived.Test.YthbamhfnemdebaaWRe
namespace Go.Proofs.Ythbamhfnemdebaa
open Go.RowKit
/-- Whom one was come to from is the start, or was come to before. -/
def trOK (fr : Int) (bk : List (Int × Int)) : Prop := ∀ l1 p l2, bk = l1 ++ p :: l2 → p.2 = fr ∨ p.2 ∈ l1.map (·.1)
theorem trOK_nil (fr : Int) : trOK fr [] := fun l1 p l2 h => by simp at h
theorem trOK_snoc {fr t a : Int} {bk : List (Int × Int)} (h : trOK fr bk) (ha : a = fr ∨ a ∈ bk.map (·.1)) : trOK fr (bk ++ [(t, a)]) := by
  intro l1 p l2 e
  rcases List.eq_nil_or_concat l2 with rfl | ⟨l3, q, rfl⟩
  · have e2 := List.append_inj' e rfl
    obtain ⟨rfl, e3⟩ := e2
    injection e3 with e3
    subst e3
    exact ha
  · rw [List.concat_eq_append, ← List.cons_append, ← List.append_assoc] at e
    have e2 := List.append_inj' e rfl
    exact h l1 p l3 e2.1
theorem nbr_keys (a : Int) : ∀ (ts : List Int) (bk : List (Int × Int)), ∃ ex, nbr a ts bk = bk ++ ex
  | [], bk => ⟨[], by simp [nbr]⟩
  | t :: ts, bk => by
    obtain ⟨ex, h⟩ := nbr_keys a ts (if hasL bk t then bk else bk ++ [(t, a)])
    have e : nbr a (t :: ts) bk = nbr a ts (if hasL bk t then bk else bk ++ [(t, a)]) := rfl
    rw [e, h]
    split
    · exact ⟨ex, rfl⟩
    · exact ⟨(t, a) :: ex, by simp⟩
theorem nbr_tr {fr a : Int} : ∀ (ts : List Int) (bk : List (Int × Int)), trOK fr bk → (a = fr ∨ a ∈ bk.map (·.1)) → trOK fr (nbr a ts bk)
  | [], _, h, _ => h
  | t :: ts, bk, h, ha => by
    have e : nbr a (t :: ts) bk = nbr a ts (if hasL bk t then bk else bk ++ [(t, a)]) := rfl
    rw [e]
    split
    · exact nbr_tr ts bk h ha
    · exact nbr_tr ts _ (trOK_snoc h ha) (ha.imp id fun h => by rw [List.map_append]; exact List.mem_append_left _ h)
theorem bfs_tr (N : List (Int × List Int)) (fr : Int) : ∀ (f : Nat) (bk : List (Int × Int)) (td : List Int), trOK fr bk → (∀ x ∈ td, x = fr ∨ x ∈ bk.map (·.1)) → trOK fr (bfs N f bk td)
  | 0, _, _, h, _ => h
  | _ + 1, _, [], h, _ => h
  | f + 1, bk, a :: td, h, ht => by
    have e : bfs N (f + 1) bk (a :: td) = bfs N f (nbr a (rowL N a) bk) (td ++ ((nbr a (rowL N a) bk).drop bk.length).map (·.1)) := rfl
    rw [e]
    refine bfs_tr N fr f _ _ (nbr_tr _ _ h (ht a (List.mem_cons_self ..))) fun x hx => ?_
    obtain ⟨ex, he⟩ := nbr_keys a (rowL N a) bk
    rw [he] at hx ⊢
    rw [List.drop_left] at hx
    rw [List.map_append, List.mem_append]
    rcases List.mem_append.1 hx with hx | hx
    · exact (ht x (List.mem_cons_of_mem _ hx)).imp id .inl
    · exact .inr (.inr hx)
/-- What ways tells is a tree. -/
theorem ways_tr {N : List (Int × List Int)} {fr : Int} {bk : List (Int × Int)} (h : ∃ s, ∀ f, bfs N (s + f) [] [fr] = bk) : trOK fr bk := by
  obtain ⟨s, hs⟩ := h
  rw [← hs 0]
  exact bfs_tr N fr _ [] [fr] (trOK_nil fr) (fun x hx => .inl (by simpa using hx))
/-- ways tells one thing only. -/
theorem ways_uniq {N : List (Int × List Int)} {fr : Int} {bk bk' : List (Int × Int)} (h : ∃ s, ∀ f, bfs N (s + f) [] [fr] = bk) (h' : ∃ s, ∀ f, bfs N (s + f) [] [fr] = bk') : bk = bk' := by
  obtain ⟨s, hs⟩ := h
  obtain ⟨t, ht⟩ := h'
  rw [← hs t, ← ht s, Nat.add_comm]
theorem nbr_mem (a x : Int) : ∀ (ts : List Int) (bk : List (Int × Int)), x ∈ (nbr a ts bk).map (·.1) ↔ x ∈ bk.map (·.1) ∨ x ∈ ts
  | [], bk => by simp [nbr]
  | t :: ts, bk => by
    have e : nbr a (t :: ts) bk = nbr a ts (if hasL bk t then bk else bk ++ [(t, a)]) := rfl
    rw [e, nbr_mem a x ts, List.mem_cons]
    cases hh : hasL bk t with
    | true =>
      rw [if_pos rfl]
      have ht := hasL_iff.1 hh
      constructor
      · rintro (h | h)
        · exact .inl h
        · exact .inr (.inr h)
      · rintro (h | h | h)
        · exact .inl h
        · exact .inl (h ▸ ht)
        · exact .inr h
    | false =>
      rw [if_neg (by simp), List.map_append, List.mem_append]
      constructor
      · rintro ((h | h) | h)
        · exact .inl h
        · exact .inr (.inl (by simpa using h))
        · exact .inr (.inr h)
      · rintro (h | h | h)
        · exact .inl (.inl h)
        · exact .inl (.inr (by simpa using h))
        · exact .inr h
theorem nbr_okB {T : List Int} (a : Int) : ∀ (ts : List Int) (bk : List (Int × Int)), okB T bk → (∀ t ∈ ts, t ∈ T) → okB T (nbr a ts bk)
  | [], _, h, _ => h
  | t :: ts, bk, h, ht => by
    have e : nbr a (t :: ts) bk = nbr a ts (if hasL bk t then bk else bk ++ [(t, a)]) := rfl
    rw [e]
    cases hh : hasL bk t with
    | true => rw [if_pos rfl]; exact nbr_okB a ts bk h fun x hx => ht x (List.mem_cons_of_mem _ hx)
    | false => rw [if_neg (by simp)]; exact nbr_okB a ts _ (okB_snoc h (ht t (List.mem_cons_self ..)) hh) fun x hx => ht x (List.mem_cons_of_mem _ hx)
theorem bfs_closed (N : List (Int × List Int)) (fr : Int) : ∀ (f : Nat) (bk : List (Int × Int)) (td : List Int), okB (tgts N) bk → 2 * ((tgts N).length - bk.length) + td.length ≤ f →
    (∀ x, (x = fr ∨ x ∈ bk.map (·.1)) → x ∈ td ∨ ∀ t ∈ rowL N x, t ∈ bk.map (·.1)) → ∀ x, (x = fr ∨ x ∈ (bfs N f bk td).map (·.1)) → ∀ t ∈ rowL N x, t ∈ (bfs N f bk td).map (·.1)
  | 0, bk, td, _, hm, hc => by
    obtain rfl : td = [] := List.eq_nil_of_length_eq_zero (by omega)
    intro x hx
    exact (hc x hx).resolve_left (by simp)
  | _ + 1, bk, [], _, _, hc => fun x hx => (hc x hx).resolve_left (by simp)
  | f + 1, bk, a :: td, ho, hm, hc => by
    have e : bfs N (f + 1) bk (a :: td) = bfs N f (nbr a (rowL N a) bk) (td ++ ((nbr a (rowL N a) bk).drop bk.length).map (·.1)) := rfl
    rw [e]
    have ho2 := nbr_okB a (rowL N a) bk ho fun t ht => rowL_tgts ht
    have hl2 := okB_len ho2
    have hl1 := nbr_len a (rowL N a) bk
    refine bfs_closed N fr f _ _ ho2 (by rw [List.length_append, List.length_map, List.length_drop]; simp only [List.length_cons] at hm; omega) fun x hx => ?_
    by_cases hold : x = fr ∨ x ∈ bk.map (·.1)
    · rcases hc x hold with h | h
      · rcases List.mem_cons.1 h with rfl | h
        · exact .inr fun t ht => (nbr_mem _ _ _ _).2 (.inr ht)
        · exact .inl (List.mem_append_left _ h)
      · exact .inr fun t ht => (nbr_mem _ _ _ _).2 (.inl (h t ht))
    · left
      obtain ⟨ex, he⟩ := nbr_keys a (rowL N a) bk
      have hx2 : x ∈ (nbr a (rowL N a) bk).map (·.1) := hx.resolve_left fun h => hold (.inl h)
      rw [he, List.map_append, List.mem_append] at hx2
      rw [he, List.drop_left]
      exact List.mem_append_right _ (hx2.resolve_left fun h => hold (.inr h))
/-- Who is reached by whom ways tells reaches no more. -/
theorem ways_closed {N : List (Int × List Int)} {fr : Int} {bk : List (Int × Int)} (h : ∃ s, ∀ f, bfs N (s + f) [] [fr] = bk) : ∀ x, (x = fr ∨ x ∈ bk.map (·.1)) → ∀ t ∈ rowL N x, t ∈ bk.map (·.1) := by
  obtain ⟨s, hs⟩ := h
  have := bfs_closed N fr (s + (2 * (tgts N).length + 1)) [] [fr] (okB_nil _) (by simp <;> omega) (fun x hx => .inl (by simpa using hx))
  rw [hs] at this
  exact this
/-- Whom one reaches. -/
inductive Rd (N : List (Int × List Int)) (fr : Int) : Int → Prop
  | one {t : Int} : t ∈ rowL N fr → Rd N fr t
  | more {x t : Int} : Rd N fr x → t ∈ rowL N x → Rd N fr t
theorem bfs_sound (N : List (Int × List Int)) (fr : Int) : ∀ (f : Nat) (bk : List (Int × Int)) (td : List Int), (∀ x ∈ bk.map (·.1), Rd N fr x) → (∀ x ∈ td, x = fr ∨ Rd N fr x) → ∀ x ∈ (bfs N f bk td).map (·.1), Rd N fr x
  | 0, _, _, h, _ => h
  | _ + 1, _, [], h, _ => h
  | f + 1, bk, a :: td, h, ht => by
    have e : bfs N (f + 1) bk (a :: td) = bfs N f (nbr a (rowL N a) bk) (td ++ ((nbr a (rowL N a) bk).drop bk.length).map (·.1)) := rfl
    rw [e]
    have hk : ∀ x ∈ (nbr a (rowL N a) bk).map (·.1), Rd N fr x := fun x hx => by
      rcases (nbr_mem _ _ _ _).1 hx with hx | hx
      · exact h x hx
      · rcases ht a (List.mem_cons_self ..) with rfl | ha
        · exact .one hx
        · exact .more ha hx
    refine bfs_sound N fr f _ _ hk fun x hx => ?_
    rcases List.mem_append.1 hx with hx | hx
    · exact ht x (List.mem_cons_of_mem _ hx)
    · right
      obtain ⟨ex, he⟩ := nbr_keys a (rowL N a) bk
      rw [he, List.drop_left] at hx
      refine hk x ?_
      rw [he, List.map_append]
      exact List.mem_append_right _ hx
/-- Who is told by ways is who is reached. -/
theorem ways_iff {N : List (Int × List Int)} {fr : Int} {bk : List (Int × Int)} (h : ∃ s, ∀ f, bfs N (s + f) [] [fr] = bk) (x : Int) : x ∈ bk.map (·.1) ↔ Rd N fr x := by
  have hc := ways_closed h
  constructor
  · obtain ⟨s, hs⟩ := h
    intro hx
    rw [← hs 0] at hx
    exact bfs_sound N fr _ [] [fr] (by simp) (fun y hy => .inl (by simpa using hy)) x hx
  · intro hr
    induction hr with
    | one ht => exact hc fr (.inl rfl) _ ht
    | more _ ht ih => exact hc _ (.inr ih) _ ht
theorem rowL_cons (k : Int) (xs : List Int) (r : List (Int × List Int)) (a : Int) : rowL ((k, xs) :: r) a = if k = a then xs else rowL r a := by
  unfold rowL
  rw [List.find?_cons]
  by_cases h : k = a
  · simp [h]
  · simp [h]
theorem rowL_none {R : List (Int × List Int)} {a : Int} (h : ∀ p ∈ R, p.1 ≠ a) : rowL R a = [] := by
  unfold rowL
  rw [List.find?_eq_none.2 fun p hp => by simpa using h p hp]
  rfl
theorem rowL_addE {R : List (Int × List Int)} {e : Ed} (a : Int) (hle : ∀ p ∈ R, p.1 ≤ e.from_) (hpw : R.Pairwise (fun p q => q.1 < p.1)) : rowL (addE R e) a = rowL R a ++ (if e.from_ = a then [e.to] else []) := by
  unfold addE
  split
  · rw [rowL_cons]
    split <;> rfl
  · rename_i k xs r
    split
    · rename_i hk
      rw [rowL_cons, rowL_cons, ← hk]
      by_cases ha : k = a
      · simp [ha]
      · simp [ha]
    · rename_i hk
      rw [rowL_cons]
      by_cases ha : e.from_ = a
      · rw [if_pos ha, if_pos ha, rowL_none (R := (k, xs) :: r) fun p hp => ?_]
        · rfl
        · have h1 := hle (k, xs) (List.mem_cons_self ..)
          simp only at h1
          rcases List.mem_cons.1 hp with rfl | hp
          · rw [← ha]; exact hk
          · have h2 := (List.pairwise_cons.1 hpw).1 p hp
            simp only at h2
            omega
      · rw [if_neg ha, if_neg ha, List.append_nil]
theorem rowL_fold (S : List Ed) (hs : S.Pairwise ltE) (a : Int) : ∀ k, k ≤ S.length → rowL ((S.take k).foldl addE []) a = ((S.take k).filter fun e => e.from_ == a).map (·.to)
  | 0, _ => rfl
  | k + 1, hk => by
    rw [List.take_succ_eq_append_getElem (by omega), List.foldl_append, List.filter_append, List.map_append, ← rowL_fold S hs a k (by omega)]
    rw [List.foldl_cons, List.foldl_nil, rowL_addE a (nx_inv S hs k (by omega)) (nx_pw S hs k (by omega))]
    congr 1
    by_cases h : S[k].from_ = a
    · simp [h]
    · simp [h]
/-- Whom one has an edge to. -/
theorem rowL_nx (L : List Ed) (a : Int) : rowL (nxL L) a = ((sdE L).filter fun e => e.from_ == a).map (·.to) := by
  have := rowL_fold (sdE L) (sdE_pw L) a _ (Nat.le_refl _)
  rw [List.take_length] at this
  exact this
theorem rowL_mem (L : List Ed) (a t : Int) : t ∈ rowL (nxL L) a ↔ ⟨a, t⟩ ∈ L := by
  rw [rowL_nx, List.mem_map]
  constructor
  · rintro ⟨e, he, rfl⟩
    rw [List.mem_filter, sdE_mem] at he
    obtain ⟨h1, h2⟩ := he
    obtain ⟨x, y⟩ := e
    simp only [beq_iff_eq] at h2
    subst h2
    exact h1
  · intro h
    exact ⟨⟨a, t⟩, List.mem_filter.2 ⟨(sdE_mem L _).2 h, by simp⟩, rfl⟩
end Go.Proofs.Ythbamhfnemdebaa
