/-
  Plain: ways and Cycle as functions of the edges. No condition.
-/
import Derived.Test.YthbamhfnemdebaaWRv
namespace Go.Proofs.Ythbamhfnemdebaa
open Go.RowKit
abbrev Rw := List (Int × List Int)
abbrev Bk := List (Int × Int)
/-- The search as steps. -/
inductive Bfs (N : Rw) : Bk → List Int → Bk → Prop
  | nil {bk : Bk} : Bfs N bk [] bk
  | step {bk : Bk} {a : Int} {td : List Int} {r : Bk} : Bfs N (nbr a (rowL N a) bk) (td ++ ((nbr a (rowL N a) bk).drop bk.length).map (·.1)) r → Bfs N bk (a :: td) r
theorem Bfs.uniq {N : Rw} {bk r r' : Bk} {td : List Int} (h : Bfs N bk td r) (h' : Bfs N bk td r') : r = r' := by
  induction h with
  | nil => cases h'; rfl
  | step _ ih => cases h' with | step h2 => exact ih h2
theorem bfs_steps (N : Rw) : ∀ (f : Nat) (bk : Bk) (td : List Int), okB (tgts N) bk → 2 * ((tgts N).length - bk.length) + td.length ≤ f → Bfs N bk td (bfs N f bk td)
  | 0, bk, td, _, hm => by
    obtain rfl : td = [] := List.eq_nil_of_length_eq_zero (by omega)
    exact .nil
  | _ + 1, bk, [], _, _ => .nil
  | f + 1, bk, a :: td, ho, hm => by
    have ho2 := nbr_okB a (rowL N a) bk ho fun t ht => rowL_tgts ht
    have hl2 := okB_len ho2
    have hl1 := nbr_len a (rowL N a) bk
    exact .step (bfs_steps N f _ _ ho2 (by rw [List.length_append, List.length_map, List.length_drop]; simp only [List.length_cons] at hm; omega))
/-- What ways tells. -/
def wyN (N : Rw) (fr : Int) : Bk := bfs N (2 * (tgts N).length + 1) [] [fr]
theorem wyN_more (N : Rw) (fr : Int) (f : Nat) : Bfs N [] [fr] (bfs N (2 * (tgts N).length + 1 + f) [] [fr]) := bfs_steps N _ [] [fr] (okB_nil _) (by simp <;> omega)
theorem wyN_steps (N : Rw) (fr : Int) : Bfs N [] [fr] (wyN N fr) := wyN_more N fr 0
theorem wyN_ends (N : Rw) (fr : Int) : ∃ s, ∀ f, bfs N (s + f) [] [fr] = wyN N fr := ⟨_, fun f => (wyN_more N fr f).uniq (wyN_steps N fr)⟩
theorem wyN_of {N : Rw} {fr : Int} {bk : Bk} (h : ∃ s, ∀ f, bfs N (s + f) [] [fr] = bk) : bk = wyN N fr := ways_uniq h (wyN_ends N fr)
theorem wyN_iff (N : Rw) (fr x : Int) : x ∈ (wyN N fr).map (·.1) ↔ Rd N fr x := ways_iff (wyN_ends N fr) x
theorem wyN_tr (N : Rw) (fr : Int) : trOK fr (wyN N fr) := ways_tr (wyN_ends N fr)
theorem bfs_okB (N : Rw) : ∀ (f : Nat) (bk : Bk) (td : List Int), okB (tgts N) bk → okB (tgts N) (bfs N f bk td)
  | 0, _, _, h => h
  | _ + 1, _, [], h => h
  | f + 1, bk, a :: td, h => bfs_okB N f _ _ (nbr_okB a (rowL N a) bk h fun t ht => rowL_tgts ht)
theorem wyN_okB (N : Rw) (fr : Int) : okB (tgts N) (wyN N fr) := bfs_okB N _ _ _ (okB_nil _)
theorem wyN_nodup (N : Rw) (fr : Int) : NodupL (wyN N fr) := (wyN_okB N fr).1
theorem nbr_par {N : Rw} {a : Int} : ∀ (ts : List Int) (bk : Bk), (∀ p ∈ bk, p.1 ∈ rowL N p.2) → (∀ t ∈ ts, t ∈ rowL N a) → ∀ p ∈ nbr a ts bk, p.1 ∈ rowL N p.2
  | [], _, h, _ => h
  | t :: ts, bk, h, ht => by
    have e : nbr a (t :: ts) bk = nbr a ts (if hasL bk t then bk else bk ++ [(t, a)]) := rfl
    rw [e]
    refine nbr_par ts _ ?_ fun x hx => ht x (List.mem_cons_of_mem _ hx)
    split
    · exact h
    · intro p hp
      rcases List.mem_append.1 hp with hp | hp
      · exact h p hp
      · simp only [List.mem_singleton] at hp
        subst hp
        exact ht t (List.mem_cons_self ..)
theorem bfs_par (N : Rw) : ∀ (f : Nat) (bk : Bk) (td : List Int), (∀ p ∈ bk, p.1 ∈ rowL N p.2) → ∀ p ∈ bfs N f bk td, p.1 ∈ rowL N p.2
  | 0, _, _, h => h
  | _ + 1, _, [], h => h
  | f + 1, bk, a :: td, h => bfs_par N f _ _ (nbr_par _ _ h fun _ ht => ht)
/-- Whom one was come to from has an edge to it. -/
theorem wyN_par (N : Rw) (fr : Int) : ∀ p ∈ wyN N fr, p.1 ∈ rowL N p.2 := bfs_par N _ _ _ (by simp)
/-- The way back, step by step. -/
def stepB (bk : Bk) (x : Int) : Int := (getL bk x).getD 0
def pathB (bk : Bk) (fr : Int) : Nat → Int → List Int
  | 0, _ => []
  | f + 1, x => if x = fr then [] else x :: pathB bk fr f (stepB bk x)
/-- Where one stands among what is known. -/
def posB (bk : Bk) (x : Int) : Nat := bk.findIdx fun p => decide (p.1 = x)
theorem stepB_mem {bk : Bk} (hn : NodupL bk) {x : Int} (hx : x ∈ bk.map (·.1)) : (x, stepB bk x) ∈ bk := by
  have h := hasL_iff.2 hx
  rw [← getL_isSome] at h
  obtain ⟨v, hv⟩ := Option.isSome_iff_exists.1 h
  unfold stepB
  rw [hv]
  exact (getL_some_iff hn).1 hv
theorem posB_lt {bk : Bk} {x : Int} (hx : x ∈ bk.map (·.1)) : posB bk x < bk.length := by
  obtain ⟨p, hp, he⟩ := List.mem_map.1 hx
  exact List.findIdx_lt_length_of_exists ⟨p, hp, by simpa using he⟩
theorem posB_step {fr : Int} {bk : Bk} (hn : NodupL bk) (ht : trOK fr bk) {x : Int} (hx : x ∈ bk.map (·.1)) : stepB bk x = fr ∨ (stepB bk x ∈ bk.map (·.1) ∧ posB bk (stepB bk x) < posB bk x) := by
  have hm := stepB_mem hn hx
  generalize stepB bk x = y at *
  obtain ⟨l1, l2, rfl⟩ := List.append_of_mem hm
  rcases ht l1 (x, y) l2 rfl with h | h
  · exact .inl h
  · right
    simp only at h
    have hx1 : x ∉ l1.map (·.1) := by
      unfold NodupL at hn
      rw [List.map_append, List.nodup_append] at hn
      intro h1
      exact hn.2.2 x h1 x (by simp) rfl
    have h1 : posB (l1 ++ (x, y) :: l2) x = l1.length := by
      unfold posB
      rw [List.findIdx_append, if_neg]
      · simp [List.findIdx_cons]
      · rw [Nat.not_lt]
        refine Nat.le_of_eq (List.findIdx_eq_length.2 fun p hp => ?_).symm
        have : p.1 ≠ x := fun e => hx1 (List.mem_map.2 ⟨p, hp, e⟩)
        simpa using this
    have h2 : posB (l1 ++ (x, y) :: l2) y < l1.length := by
      have h3 := posB_lt (bk := l1) h
      unfold posB at h3 ⊢
      rw [List.findIdx_append, if_pos h3]
      exact h3
    exact ⟨by rw [List.map_append]; exact List.mem_append_left _ h, by omega⟩
/-- What Cycle tells of edges gone through one by one. -/
def cycG (N : Rw) : List Ed → List Int × Bool
  | [] => ([], false)
  | e :: r => if hasL (wyN N e.from_) e.from_ then ((pathB (wyN N e.from_) e.from_ (wyN N e.from_).length (stepB (wyN N e.from_) e.from_) ++ [e.from_]).reverse, true) else cycG N r
def cyc (L : List Ed) : List Int × Bool := cycG (nxL L) (sdE L)
theorem wyN_len (L : List Ed) (fr : Int) : (wyN (nxL L) fr).length ≤ L.length := Nat.le_trans (okB_len (wyN_okB _ _)) (tgts_nx L)
theorem pathB_len (bk : Bk) (fr : Int) : ∀ (f : Nat) (x : Int), (pathB bk fr f x).length ≤ f
  | 0, _ => Nat.le_refl _
  | f + 1, x => by
    unfold pathB
    split
    · simp
    · have := pathB_len bk fr f (stepB bk x)
      simp only [List.length_cons]
      omega
theorem cycG_len (L : List Ed) : ∀ S, (cycG (nxL L) S).1.length ≤ L.length + 1
  | [] => by simp [cycG]
  | e :: r => by
    unfold cycG
    split
    · simp only [List.length_reverse, List.length_append, List.length_cons, List.length_nil]
      have h1 := wyN_len L e.from_
      have h2 := pathB_len (wyN (nxL L) e.from_) e.from_ (wyN (nxL L) e.from_).length (stepB (wyN (nxL L) e.from_) e.from_)
      omega
    · exact cycG_len L r
end Go.Proofs.Ythbamhfnemdebaa
