/-
  Contracts and plain laws that the walk leans on, part 16. No condition.
-/
import Derived.Test.YtcnkmhfcgkbhbaaGreatZCl15
import Derived.Test.YtcnkmhfcgkbhbaaGreatProg
import Derived.Test.YtcnkmhfcgkbhbaaGreatChecked
import Derived.Shelf.Slices.Reverse
import Derived.Ground.NamesProg
import Derived.Ground.Names2Prog
namespace Go.Proofs.YtcnkmhfcgkbhbaaGreat
open Go.RowKit
/-- Whom one was come to from is the start, or was come to before. -/
def trOK (fr : Int) (bk : List (Int × Int)) : Prop := ∀ l1 p l2, bk = l1 ++ p :: l2 → p.2 = fr ∨ p.2 ∈ l1.map (·.1)
theorem trOK_nil (fr : Int) : trOK fr [] := fun l1 p l2 h => by simp at h
theorem trOK_snoc {fr t a : Int} {bk : List (Int × Int)} (h : trOK fr bk) (ha : a = fr ∨ a ∈ bk.map (·.1)) : trOK fr (bk ++ [(t, a)]) := by
  intro l1 p l2 e
  rcases List.eq_nil_or_concat l2 with rfl | ⟨l3, q, rfl⟩
  · have e2 := List.append_inj' e rfl
    obtain ⟨rfl, e3⟩ := e2
    injection e3 with e3
    subst e3
    exact ha
  · rw [List.concat_eq_append, ← List.cons_append, ← List.append_assoc] at e
    have e2 := List.append_inj' e rfl
    exact h l1 p l3 e2.1
theorem nbr_keys (a : Int) : ∀ (ts : List Int) (bk : List (Int × Int)), ∃ ex, nbr a ts bk = bk ++ ex
  | [], bk => ⟨[], by simp [nbr]⟩
  | t :: ts, bk => by
    obtain ⟨ex, h⟩ := nbr_keys a ts (if hasL bk t then bk else bk ++ [(t, a)])
    have e : nbr a (t :: ts) bk = nbr a ts (if hasL bk t then bk else bk ++ [(t, a)]) := rfl
    rw [e, h]
    split
    · exact ⟨ex, rfl⟩
    · exact ⟨(t, a) :: ex, by simp⟩
theorem nbr_tr {fr a : Int} : ∀ (ts : List Int) (bk : List (Int × Int)), trOK fr bk → (a = fr ∨ a ∈ bk.map (·.1)) → trOK fr (nbr a ts bk)
  | [], _, h, _ => h
  | t :: ts, bk, h, ha => by
    have e : nbr a (t :: ts) bk = nbr a ts (if hasL bk t then bk else bk ++ [(t, a)]) := rfl
    rw [e]
    split
    · exact nbr_tr ts bk h ha
    · exact nbr_tr ts _ (trOK_snoc h ha) (ha.imp id fun h => by rw [List.map_append]; exact List.mem_append_left _ h)
theorem bfs_tr (N : List (Int × List Int)) (fr : Int) : ∀ (f : Nat) (bk : List (Int × Int)) (td : List Int), trOK fr bk → (∀ x ∈ td, x = fr ∨ x ∈ bk.map (·.1)) → trOK fr (bfs N f bk td)
  | 0, _, _, h, _ => h
  | _ + 1, _, [], h, _ => h
  | f + 1, bk, a :: td, h, ht => by
    have e : bfs N (f + 1) bk (a :: td) = bfs N f (nbr a (rowL N a) bk) (td ++ ((nbr a (rowL N a) bk).drop bk.length).map (·.1)) := rfl
    rw [e]
    refine bfs_tr N fr f _ _ (nbr_tr _ _ h (ht a (List.mem_cons_self ..))) fun x hx => ?_
    obtain ⟨ex, he⟩ := nbr_keys a (rowL N a) bk
    rw [he] at hx ⊢
    rw [List.drop_left] at hx
    rw [List.map_append, List.mem_append]
    rcases List.mem_append.1 hx with hx | hx
    · exact (ht x (List.mem_cons_of_mem _ hx)).imp id .inl
    · exact .inr (.inr hx)
/-- What ways tells is a tree. -/
theorem ways_tr {N : List (Int × List Int)} {fr : Int} {bk : List (Int × Int)} (h : ∃ s, ∀ f, bfs N (s + f) [] [fr] = bk) : trOK fr bk := by
  obtain ⟨s, hs⟩ := h
  rw [← hs 0]
  exact bfs_tr N fr _ [] [fr] (trOK_nil fr) (fun x hx => .inl (by simpa using hx))
/-- ways tells one thing only. -/
theorem ways_uniq {N : List (Int × List Int)} {fr : Int} {bk bk' : List (Int × Int)} (h : ∃ s, ∀ f, bfs N (s + f) [] [fr] = bk) (h' : ∃ s, ∀ f, bfs N (s + f) [] [fr] = bk') : bk = bk' := by
  obtain ⟨s, hs⟩ := h
  obtain ⟨t, ht⟩ := h'
  rw [← hs t, ← ht s, Nat.add_comm]
theorem nbr_mem (a x : Int) : ∀ (ts : List Int) (bk : List (Int × Int)), x ∈ (nbr a ts bk).map (·.1) ↔ x ∈ bk.map (·.1) ∨ x ∈ ts
  | [], bk => by simp [nbr]
  | t :: ts, bk => by
    have e : nbr a (t :: ts) bk = nbr a ts (if hasL bk t then bk else bk ++ [(t, a)]) := rfl
    rw [e, nbr_mem a x ts, List.mem_cons]
    cases hh : hasL bk t with
    | true =>
      rw [if_pos rfl]
      have ht := hasL_iff.1 hh
      constructor
      · rintro (h | h)
        · exact .inl h
        · exact .inr (.inr h)
      · rintro (h | h | h)
        · exact .inl h
        · exact .inl (h ▸ ht)
        · exact .inr h
    | false =>
      rw [if_neg (by simp), List.map_append, List.mem_append]
      constructor
      · rintro ((h | h) | h)
        · exact .inl h
        · exact .inr (.inl (by simpa using h))
        · exact .inr (.inr h)
      · rintro (h | h | h)
        · exact .inl (.inl h)
        · exact .inl (.inr (by simpa using h))
        · exact .inr h
theorem nbr_okB {T : List Int} (a : Int) : ∀ (ts : List Int) (bk : List (Int × Int)), okB T bk → (∀ t ∈ ts, t ∈ T) → okB T (nbr a ts bk)
  | [], _, h, _ => h
  | t :: ts, bk, h, ht => by
    have e : nbr a (t :: ts) bk = nbr a ts (if hasL bk t then bk else bk ++ [(t, a)]) := rfl
    rw [e]
    cases hh : hasL bk t with
    | true => rw [if_pos rfl]; exact nbr_okB a ts bk h fun x hx => ht x (List.mem_cons_of_mem _ hx)
    | false => rw [if_neg (by simp)]; exact nbr_okB a ts _ (okB_snoc h (ht t (List.mem_cons_self ..)) hh) fun x hx => ht x (List.mem_cons_of_mem _ hx)
theorem bfs_closed (N : List (Int × List Int)) (fr : Int) : ∀ (f : Nat) (bk : List (Int × Int)) (td : List Int), okB (tgts N) bk → 2 * ((tgts N).length - bk.length) + td.length ≤ f →
    (∀ x, (x = fr ∨ x ∈ bk.map (·.1)) → x ∈ td ∨ ∀ t ∈ rowL N x, t ∈ bk.map (·.1)) → ∀ x, (x = fr ∨ x ∈ (bfs N f bk td).map (·.1)) → ∀ t ∈ rowL N x, t ∈ (bfs N f bk td).map (·.1)
  | 0, bk, td, _, hm, hc => by
    obtain rfl : td = [] := List.eq_nil_of_length_eq_zero (by omega)
    intro x hx
    exact (hc x hx).resolve_left (by simp)
  | _ + 1, bk, [], _, _, hc => fun x hx => (hc x hx).resolve_left (by simp)
  | f + 1, bk, a :: td, ho, hm, hc => by
    have e : bfs N (f + 1) bk (a :: td) = bfs N f (nbr a (rowL N a) bk) (td ++ ((nbr a (rowL N a) bk).drop bk.length).map (·.1)) := rfl
    rw [e]
    have ho2 := nbr_okB a (rowL N a) bk ho fun t ht => rowL_tgts ht
    have hl2 := okB_len ho2
    have hl1 := nbr_len a (rowL N a) bk
    refine bfs_closed N fr f _ _ ho2 (by rw [List.length_append, List.length_map, List.length_drop]; simp only [List.length_cons] at hm; omega) fun x hx => ?_
    by_cases hold : x = fr ∨ x ∈ bk.map (·.1)
    · rcases hc x hold with h | h
      · rcases List.mem_cons.1 h with rfl | h
        · exact .inr fun t ht => (nbr_mem _ _ _ _).2 (.inr ht)
        · exact .inl (List.mem_append_left _ h)
      · exact .inr fun t ht => (nbr_mem _ _ _ _).2 (.inl (h t ht))
    · left
      obtain ⟨ex, he⟩ := nbr_keys a (rowL N a) bk
      have hx2 : x ∈ (nbr a (rowL N a) bk).map (·.1) := hx.resolve_left fun h => hold (.inl h)
      rw [he, List.map_append, List.mem_append] at hx2
      rw [he, List.drop_left]
      exact List.mem_append_right _ (hx2.resolve_left fun h => hold (.inr h))
/-- Who is reached by whom ways tells reaches no more. -/
theorem ways_closed {N : List (Int × List Int)} {fr : Int} {bk : List (Int × Int)} (h : ∃ s, ∀ f, bfs N (s + f) [] [fr] = bk) : ∀ x, (x = fr ∨ x ∈ bk.map (·.1)) → ∀ t ∈ rowL N x, t ∈ bk.map (·.1) := by
  obtain ⟨s, hs⟩ := h
  have := bfs_closed N fr (s + (2 * (tgts N).length + 1)) [] [fr] (okB_nil _) (by simp <;> omega) (fun x hx => .inl (by simpa using hx))
  rw [hs] at this
  exact this
/-- Whom one reaches. -/
inductive Rd (N : List (Int × List Int)) (fr : Int) : Int → Prop
  | one {t : Int} : t ∈ rowL N fr → Rd N fr t
  | more {x t : Int} : Rd N fr x → t ∈ rowL N x → Rd N fr t
theorem bfs_sound (N : List (Int × List Int)) (fr : Int) : ∀ (f : Nat) (bk : List (Int × Int)) (td : List Int), (∀ x ∈ bk.map (·.1), Rd N fr x) → (∀ x ∈ td, x = fr ∨ Rd N fr x) → ∀ x ∈ (bfs N f bk td).map (·.1), Rd N fr x
  | 0, _, _, h, _ => h
  | _ + 1, _, [], h, _ => h
  | f + 1, bk, a :: td, h, ht => by
    have e : bfs N (f + 1) bk (a :: td) = bfs N f (nbr a (rowL N a) bk) (td ++ ((nbr a (rowL N a) bk).drop bk.length).map (·.1)) := rfl
    rw [e]
    have hk : ∀ x ∈ (nbr a (rowL N a) bk).map (·.1), Rd N fr x := fun x hx => by
      rcases (nbr_mem _ _ _ _).1 hx with hx | hx
      · exact h x hx
      · rcases ht a (List.mem_cons_self ..) with rfl | ha
        · exact .one hx
        · exact .more ha hx
    refine bfs_sound N fr f _ _ hk fun x hx => ?_
    rcases List.mem_append.1 hx with hx | hx
    · exact ht x (List.mem_cons_of_mem _ hx)
    · right
      obtain ⟨ex, he⟩ := nbr_keys a (rowL N a) bk
      rw [he, List.drop_left] at hx
      refine hk x ?_
      rw [he, List.map_append]
      exact List.mem_append_right _ hx
/-- Who is told by ways is who is reached. -/
theorem ways_iff {N : List (Int × List Int)} {fr : Int} {bk : List (Int × Int)} (h : ∃ s, ∀ f, bfs N (s + f) [] [fr] = bk) (x : Int) : x ∈ bk.map (·.1) ↔ Rd N fr x := by
  have hc := ways_closed h
  constructor
  · obtain ⟨s, hs⟩ := h
    intro hx
    rw [← hs 0] at hx
    exact bfs_sound N fr _ [] [fr] (by simp) (fun y hy => .inl (by simpa using hy)) x hx
  · intro hr
    induction hr with
    | one ht => exact hc fr (.inl rfl) _ ht
    | more _ ht ih => exact hc _ (.inr ih) _ ht
theorem rowL_cons (k : Int) (xs : List Int) (r : List (Int × List Int)) (a : Int) : rowL ((k, xs) :: r) a = if k = a then xs else rowL r a := by
  unfold rowL
  rw [List.find?_cons]
  by_cases h : k = a
  · simp [h]
  · simp [h]
theorem rowL_none {R : List (Int × List Int)} {a : Int} (h : ∀ p ∈ R, p.1 ≠ a) : rowL R a = [] := by
  unfold rowL
  rw [List.find?_eq_none.2 fun p hp => by simpa using h p hp]
  rfl
theorem rowL_addE {R : List (Int × List Int)} {e : Ed} (a : Int) (hle : ∀ p ∈ R, p.1 ≤ e.from_) (hpw : R.Pairwise (fun p q => q.1 < p.1)) : rowL (addE R e) a = rowL R a ++ (if e.from_ = a then [e.tgt] else []) := by
  unfold addE
  split
  · rw [rowL_cons]
    split <;> rfl
  · rename_i k xs r
    split
    · rename_i hk
      rw [rowL_cons, rowL_cons, ← hk]
      by_cases ha : k = a
      · simp [ha]
      · simp [ha]
    · rename_i hk
      rw [rowL_cons]
      by_cases ha : e.from_ = a
      · rw [if_pos ha, if_pos ha, rowL_none (R := (k, xs) :: r) fun p hp => ?_]
        · rfl
        · have h1 := hle (k, xs) (List.mem_cons_self ..)
          simp only at h1
          rcases List.mem_cons.1 hp with rfl | hp
          · rw [← ha]; exact hk
          · have h2 := (List.pairwise_cons.1 hpw).1 p hp
            simp only at h2
            omega
      · rw [if_neg ha, if_neg ha, List.append_nil]
theorem rowL_fold (S : List Ed) (hs : S.Pairwise ltE) (a : Int) : ∀ k, k ≤ S.length → rowL ((S.take k).foldl addE []) a = ((S.take k).filter fun e => e.from_ == a).map (·.tgt)
  | 0, _ => rfl
  | k + 1, hk => by
    rw [List.take_succ_eq_append_getElem (by omega), List.foldl_append, List.filter_append, List.map_append, ← rowL_fold S hs a k (by omega)]
    rw [List.foldl_cons, List.foldl_nil, rowL_addE a (nx_inv S hs k (by omega)) (nx_pw S hs k (by omega))]
    congr 1
    by_cases h : S[k].from_ = a
    · simp [h]
    · simp [h]
/-- Whom one has an edge to. -/
theorem rowL_nx (L : List Ed) (a : Int) : rowL (nxL L) a = ((sdE L).filter fun e => e.from_ == a).map (·.tgt) := by
  have := rowL_fold (sdE L) (sdE_pw L) a _ (Nat.le_refl _)
  rw [List.take_length] at this
  exact this
theorem rowL_mem (L : List Ed) (a t : Int) : t ∈ rowL (nxL L) a ↔ ⟨a, t⟩ ∈ L := by
  rw [rowL_nx, List.mem_map]
  constructor
  · rintro ⟨e, he, rfl⟩
    rw [List.mem_filter, sdE_mem] at he
    obtain ⟨h1, h2⟩ := he
    obtain ⟨x, y⟩ := e
    simp only [beq_iff_eq] at h2
    subst h2
    exact h1
  · intro h
    exact ⟨⟨a, t⟩, List.mem_filter.2 ⟨(sdE_mem L _).2 h, by simp⟩, rfl⟩
end Go.Proofs.YtcnkmhfcgkbhbaaGreat
namespace Go.Proofs
open Go.Shelf
def Tryz.reverseI_ren : Go.Shelf.Ren := ⟨fun | 112 => 23 | n => n, fun | 28 => 25 | 3 => 3 | 4 => 4 | 0 => 0 | n => n, fun | n => n⟩
theorem Tryz.reverseI : Go.Proofs.Lays.n112 Tryz.prog Tryz.reverseI_ren := {
  mixed := by kernel_rfl
  f112 := Tryz.func23.trans (congrArg some (by kernel_rfl))
  t0 := Tryz.underlying0
  a0 := Tryz.isAgg0
  z0 := Tryz.sizeOf0
  v0 := Tryz.zeroValue0
  t3 := Tryz.underlying3
  a3 := Tryz.isAgg3
  z3 := Tryz.sizeOf3
  v3 := Tryz.zeroValue3
  t4 := Tryz.underlying4
  a4 := Tryz.isAgg4
  z4 := Tryz.sizeOf4
  v4 := Tryz.zeroValue4
  t28 := Tryz.underlying25
  a28 := Tryz.isAgg25
  z28 := Tryz.sizeOf25
  v28 := Tryz.zeroValue25 }
end Go.Proofs
namespace Go.Proofs.YtcnkmhfcgkbhbaaGreat
open Go.RowKit
theorem revI_any (a : Option Addr) (n c : Nat) (xs : List Int) (w : World) (rs : List Res) (hS : Sep w (vec 3 1 (.slice a n c) n (xs.map (Value.int .i64)) :: rs)) (hl : xs.length = n) (h0 : 0 < n) (hn : n ≤ 1000000) :
    Calls Tryz.prog 23 #[.slice a n c] w fun e w' => e = .returned (.tuple #[]) ∧ Sep w' (vec 3 1 (.slice a n c) n (xs.reverse.map (Value.int .i64)) :: rs) := by
  obtain ⟨g, rfl⟩ : ∃ g, a = some ⟨g, 0, none⟩ := by
    rcases hS.gvec.2 with ⟨_, h1⟩ | ⟨g, cap, cur, hv, _⟩
    · omega
    · injection hv with e1 _ _
      exact ⟨g, e1⟩
  obtain ⟨hH, hg⟩ := hS.vec_holds1 (Value.int .i64) xs hl
  have hcon := Any.slices_Reverse_int Tryz.reverseI g 0 c xs w hH (by omega)
  rw [hl] at hcon
  refine Calls.mono (show Calls Tryz.prog 23 _ w _ from hcon) ?_
  rintro e w' ⟨rfl, m, rfl⟩
  refine ⟨rfl, ?_⟩
  have := hS.vec_row (Value.int .i64) m xs.reverse.toArray #[] (by simpa using hl)
  simpa using this
end Go.Proofs.YtcnkmhfcgkbhbaaGreat
namespace Go.Proofs.YtcnkmhfcgkbhbaaGreat
open Go.RowKit
abbrev Rw := List (Int × List Int)
abbrev Bk := List (Int × Int)
/-- The search as steps. -/
inductive Bfs (N : Rw) : Bk → List Int → Bk → Prop
  | nil {bk : Bk} : Bfs N bk [] bk
  | step {bk : Bk} {a : Int} {td : List Int} {r : Bk} : Bfs N (nbr a (rowL N a) bk) (td ++ ((nbr a (rowL N a) bk).drop bk.length).map (·.1)) r → Bfs N bk (a :: td) r
theorem Bfs.uniq {N : Rw} {bk r r' : Bk} {td : List Int} (h : Bfs N bk td r) (h' : Bfs N bk td r') : r = r' := by
  induction h with
  | nil => cases h'; rfl
  | step _ ih => cases h' with | step h2 => exact ih h2
theorem bfs_steps (N : Rw) : ∀ (f : Nat) (bk : Bk) (td : List Int), okB (tgts N) bk → 2 * ((tgts N).length - bk.length) + td.length ≤ f → Bfs N bk td (bfs N f bk td)
  | 0, bk, td, _, hm => by
    obtain rfl : td = [] := List.eq_nil_of_length_eq_zero (by omega)
    exact .nil
  | _ + 1, bk, [], _, _ => .nil
  | f + 1, bk, a :: td, ho, hm => by
    have ho2 := nbr_okB a (rowL N a) bk ho fun t ht => rowL_tgts ht
    have hl2 := okB_len ho2
    have hl1 := nbr_len a (rowL N a) bk
    exact .step (bfs_steps N f _ _ ho2 (by rw [List.length_append, List.length_map, List.length_drop]; simp only [List.length_cons] at hm; omega))
/-- What ways tells. -/
def wyN (N : Rw) (fr : Int) : Bk := bfs N (2 * (tgts N).length + 1) [] [fr]
theorem wyN_more (N : Rw) (fr : Int) (f : Nat) : Bfs N [] [fr] (bfs N (2 * (tgts N).length + 1 + f) [] [fr]) := bfs_steps N _ [] [fr] (okB_nil _) (by simp <;> omega)
theorem wyN_steps (N : Rw) (fr : Int) : Bfs N [] [fr] (wyN N fr) := wyN_more N fr 0
theorem wyN_ends (N : Rw) (fr : Int) : ∃ s, ∀ f, bfs N (s + f) [] [fr] = wyN N fr := ⟨_, fun f => (wyN_more N fr f).uniq (wyN_steps N fr)⟩
theorem wyN_of {N : Rw} {fr : Int} {bk : Bk} (h : ∃ s, ∀ f, bfs N (s + f) [] [fr] = bk) : bk = wyN N fr := ways_uniq h (wyN_ends N fr)
theorem wyN_iff (N : Rw) (fr x : Int) : x ∈ (wyN N fr).map (·.1) ↔ Rd N fr x := ways_iff (wyN_ends N fr) x
theorem wyN_tr (N : Rw) (fr : Int) : trOK fr (wyN N fr) := ways_tr (wyN_ends N fr)
theorem bfs_okB (N : Rw) : ∀ (f : Nat) (bk : Bk) (td : List Int), okB (tgts N) bk → okB (tgts N) (bfs N f bk td)
  | 0, _, _, h => h
  | _ + 1, _, [], h => h
  | f + 1, bk, a :: td, h => bfs_okB N f _ _ (nbr_okB a (rowL N a) bk h fun t ht => rowL_tgts ht)
theorem wyN_okB (N : Rw) (fr : Int) : okB (tgts N) (wyN N fr) := bfs_okB N _ _ _ (okB_nil _)
theorem wyN_nodup (N : Rw) (fr : Int) : NodupL (wyN N fr) := (wyN_okB N fr).1
theorem nbr_par {N : Rw} {a : Int} : ∀ (ts : List Int) (bk : Bk), (∀ p ∈ bk, p.1 ∈ rowL N p.2) → (∀ t ∈ ts, t ∈ rowL N a) → ∀ p ∈ nbr a ts bk, p.1 ∈ rowL N p.2
  | [], _, h, _ => h
  | t :: ts, bk, h, ht => by
    have e : nbr a (t :: ts) bk = nbr a ts (if hasL bk t then bk else bk ++ [(t, a)]) := rfl
    rw [e]
    refine nbr_par ts _ ?_ fun x hx => ht x (List.mem_cons_of_mem _ hx)
    split
    · exact h
    · intro p hp
      rcases List.mem_append.1 hp with hp | hp
      · exact h p hp
      · simp only [List.mem_singleton] at hp
        subst hp
        exact ht t (List.mem_cons_self ..)
theorem bfs_par (N : Rw) : ∀ (f : Nat) (bk : Bk) (td : List Int), (∀ p ∈ bk, p.1 ∈ rowL N p.2) → ∀ p ∈ bfs N f bk td, p.1 ∈ rowL N p.2
  | 0, _, _, h => h
  | _ + 1, _, [], h => h
  | f + 1, bk, a :: td, h => bfs_par N f _ _ (nbr_par _ _ h fun _ ht => ht)
/-- Whom one was come to from has an edge to it. -/
theorem wyN_par (N : Rw) (fr : Int) : ∀ p ∈ wyN N fr, p.1 ∈ rowL N p.2 := bfs_par N _ _ _ (by simp)
/-- The way back, step by step. -/
def stepB (bk : Bk) (x : Int) : Int := (getL bk x).getD 0
def pathB (bk : Bk) (fr : Int) : Nat → Int → List Int
  | 0, _ => []
  | f + 1, x => if x = fr then [] else x :: pathB bk fr f (stepB bk x)
/-- Where one stands among what is known. -/
def posB (bk : Bk) (x : Int) : Nat := bk.findIdx fun p => decide (p.1 = x)
theorem stepB_mem {bk : Bk} (hn : NodupL bk) {x : Int} (hx : x ∈ bk.map (·.1)) : (x, stepB bk x) ∈ bk := by
  have h := hasL_iff.2 hx
  rw [← getL_isSome] at h
  obtain ⟨v, hv⟩ := Option.isSome_iff_exists.1 h
  unfold stepB
  rw [hv]
  exact (getL_some_iff hn).1 hv
theorem posB_lt {bk : Bk} {x : Int} (hx : x ∈ bk.map (·.1)) : posB bk x < bk.length := by
  obtain ⟨p, hp, he⟩ := List.mem_map.1 hx
  exact List.findIdx_lt_length_of_exists ⟨p, hp, by simpa using he⟩
theorem posB_step {fr : Int} {bk : Bk} (hn : NodupL bk) (ht : trOK fr bk) {x : Int} (hx : x ∈ bk.map (·.1)) : stepB bk x = fr ∨ (stepB bk x ∈ bk.map (·.1) ∧ posB bk (stepB bk x) < posB bk x) := by
  have hm := stepB_mem hn hx
  generalize stepB bk x = y at *
  obtain ⟨l1, l2, rfl⟩ := List.append_of_mem hm
  rcases ht l1 (x, y) l2 rfl with h | h
  · exact .inl h
  · right
    simp only at h
    have hx1 : x ∉ l1.map (·.1) := by
      unfold NodupL at hn
      rw [List.map_append, List.nodup_append] at hn
      intro h1
      exact hn.2.2 x h1 x (by simp) rfl
    have h1 : posB (l1 ++ (x, y) :: l2) x = l1.length := by
      unfold posB
      rw [List.findIdx_append, if_neg]
      · simp [List.findIdx_cons]
      · rw [Nat.not_lt]
        refine Nat.le_of_eq (List.findIdx_eq_length.2 fun p hp => ?_).symm
        have : p.1 ≠ x := fun e => hx1 (List.mem_map.2 ⟨p, hp, e⟩)
        simpa using this
    have h2 : posB (l1 ++ (x, y) :: l2) y < l1.length := by
      have h3 := posB_lt (bk := l1) h
      unfold posB at h3 ⊢
      rw [List.findIdx_append, if_pos h3]
      exact h3
    exact ⟨by rw [List.map_append]; exact List.mem_append_left _ h, by omega⟩
/-- What Cycle tells of edges gone through one by one. -/
def cycG (N : Rw) : List Ed → List Int × Bool
  | [] => ([], false)
  | e :: r => if hasL (wyN N e.from_) e.from_ then ((pathB (wyN N e.from_) e.from_ (wyN N e.from_).length (stepB (wyN N e.from_) e.from_) ++ [e.from_]).reverse, true) else cycG N r
def cyc (L : List Ed) : List Int × Bool := cycG (nxL L) (sdE L)
theorem wyN_len (L : List Ed) (fr : Int) : (wyN (nxL L) fr).length ≤ L.length := Nat.le_trans (okB_len (wyN_okB _ _)) (tgts_nx L)
theorem pathB_len (bk : Bk) (fr : Int) : ∀ (f : Nat) (x : Int), (pathB bk fr f x).length ≤ f
  | 0, _ => Nat.le_refl _
  | f + 1, x => by
    unfold pathB
    split
    · simp
    · have := pathB_len bk fr f (stepB bk x)
      simp only [List.length_cons]
      omega
theorem cycG_len (L : List Ed) : ∀ S, (cycG (nxL L) S).1.length ≤ L.length + 1
  | [] => by simp [cycG]
  | e :: r => by
    unfold cycG
    split
    · simp only [List.length_reverse, List.length_append, List.length_cons, List.length_nil]
      have h1 := wyN_len L e.from_
      have h2 := pathB_len (wyN (nxL L) e.from_) e.from_ (wyN (nxL L) e.from_).length (stepB (wyN (nxL L) e.from_) e.from_)
      omega
    · exact cycG_len L r
end Go.Proofs.YtcnkmhfcgkbhbaaGreat
namespace Go.Proofs.YtcnkmhfcgkbhbaaGreat
open Go.RowKit
theorem pathB_fr (bk : Bk) (fr : Int) (f : Nat) : pathB bk fr f fr = [] := by
  cases f with
  | zero => rfl
  | succ f => unfold pathB; rw [if_pos rfl]
theorem pathB_ne (bk : Bk) {fr x : Int} (f : Nat) (h : ¬ x = fr) : pathB bk fr (f + 1) x = x :: pathB bk fr f (stepB bk x) := by
  conv => lhs; unfold pathB
  rw [if_neg h]
/-- Where the way back stands with what is left of it. -/
def onB (bk : Bk) (fr : Int) (f : Nat) (x : Int) : Prop := x = fr ∨ (x ∈ bk.map (·.1) ∧ posB bk x < f)
theorem onB_step {bk : Bk} {fr x : Int} {f : Nat} (hn : NodupL bk) (ht : trOK fr bk) (h : onB bk fr (f + 1) x) (hx : ¬ x = fr) : onB bk fr f (stepB bk x) := by
  obtain ⟨h1, h2⟩ := h.resolve_left hx
  rcases posB_step hn ht h1 with h3 | ⟨h3, h4⟩
  · exact .inl h3
  · exact .inr ⟨h3, by omega⟩
theorem onB_pos {bk : Bk} {fr x : Int} {f : Nat} (h : onB bk fr f x) (hx : ¬ x = fr) : 0 < f := by
  have := (h.resolve_left hx).2
  omega
theorem onB_key {bk : Bk} {fr x : Int} {f : Nat} (h : onB bk fr f x) (hx : ¬ x = fr) : x ∈ bk.map (·.1) := (h.resolve_left hx).1
theorem onB_start {N : Rw} {fr : Int} (h : fr ∈ (wyN N fr).map (·.1)) : onB (wyN N fr) fr (wyN N fr).length (stepB (wyN N fr) fr) := by
  rcases posB_step (wyN_nodup N fr) (wyN_tr N fr) h with h3 | ⟨h3, h4⟩
  · exact .inl h3
  · exact .inr ⟨h3, posB_lt h3⟩
theorem path_facts {bk : Bk} {fr : Int} (hn : NodupL bk) (ht : trOK fr bk) : ∀ (f : Nat) (x : Int), onB bk fr f x →
    (∀ i a b, (pathB bk fr f x ++ [fr])[i]? = some a → (pathB bk fr f x ++ [fr])[i + 1]? = some b → (a, b) ∈ bk) ∧ (pathB bk fr f x ++ [fr])[0]? = some x ∧ (∀ y ∈ pathB bk fr f x, y ≠ fr ∧ posB bk y ≤ posB bk x) ∧ (pathB bk fr f x).Nodup := by
  intro f
  induction f with
  | zero =>
    intro x h
    obtain rfl : x = fr := by
      refine Classical.byContradiction fun hx => ?_
      have := onB_pos h hx
      omega
    rw [pathB_fr]
    refine ⟨fun i a b _ h2 => ?_, rfl, by simp, by simp⟩
    simp at h2
  | succ f ih =>
    intro x h
    by_cases hx : x = fr
    · subst hx
      rw [pathB_fr]
      refine ⟨fun i a b _ h2 => ?_, rfl, by simp, by simp⟩
      simp at h2
    · rw [pathB_ne _ _ hx]
      obtain ⟨h1, h2, h3, h4⟩ := ih _ (onB_step hn ht h hx)
      have hk := onB_key h hx
      have hlt : ∀ y ∈ pathB bk fr f (stepB bk x), posB bk y < posB bk x := by
        intro y hy
        rcases posB_step hn ht hk with h5 | ⟨_, h6⟩
        · rw [h5, pathB_fr] at hy; simp at hy
        · exact Nat.lt_of_le_of_lt (h3 y hy).2 h6
      refine ⟨fun i a b ha hb => ?_, rfl, fun y hy => ?_, ?_⟩
      · cases i with
        | zero =>
          simp only [List.cons_append, List.getElem?_cons_zero, Option.some.injEq] at ha
          simp only [List.cons_append, Nat.zero_add, List.getElem?_cons_succ] at hb
          rw [h2] at hb
          injection hb with hb
          subst ha hb
          exact stepB_mem hn hk
        | succ i =>
          simp only [List.cons_append, List.getElem?_cons_succ] at ha hb
          exact h1 i a b ha hb
      · rcases List.mem_cons.1 hy with rfl | hy
        · exact ⟨hx, Nat.le_refl _⟩
        · exact ⟨(h3 y hy).1, Nat.le_of_lt (hlt y hy)⟩
      · rw [List.nodup_cons]
        refine ⟨fun hm => ?_, h4⟩
        have := hlt x hm
        omega
/-- What Cycle tells of one that reaches itself. -/
def rsC (N : Rw) (fr : Int) : List Int × Bool := ((pathB (wyN N fr) fr (wyN N fr).length (stepB (wyN N fr) fr) ++ [fr]).reverse, true)
theorem cycG_cons (N : Rw) (e : Ed) (r : List Ed) : cycG N (e :: r) = if hasL (wyN N e.from_) e.from_ then rsC N e.from_ else cycG N r := rfl
theorem hasW_iff (N : Rw) (fr x : Int) : hasL (wyN N fr) x = true ↔ Rd N fr x := by rw [hasL_iff, wyN_iff]
end Go.Proofs.YtcnkmhfcgkbhbaaGreat
namespace Go.Proofs.YtcnkmhfcgkbhbaaGreat
open Go.RowKit
theorem Rd.trans {N : Rw} {a b c : Int} (h : Rd N a b) (h2 : Rd N b c) : Rd N a c := by
  induction h2 with
  | one ht => exact .more h ht
  | more _ ht ih => exact .more ih ht
theorem Rd.mono {N N' : Rw} (hs : ∀ a t, t ∈ rowL N a → t ∈ rowL N' a) {a b : Int} (h : Rd N a b) : Rd N' a b := by
  induction h with
  | one ht => exact .one (hs _ _ ht)
  | more _ ht ih => exact .more ih (hs _ _ ht)
theorem Rd.first {N : Rw} {a b : Int} (h : Rd N a b) : ∃ t, t ∈ rowL N a := by
  induction h with
  | one ht => exact ⟨_, ht⟩
  | more _ _ ih => exact ih
theorem Rd.last {N : Rw} {a b : Int} (h : Rd N a b) : ∃ x, b ∈ rowL N x := by
  cases h with
  | one ht => exact ⟨_, ht⟩
  | more _ ht => exact ⟨_, ht⟩
/-- Whom one reaches, rising. -/
def rcL (L : List Ed) (a : Int) : List Int := srI ((wyN (nxL L) a).map (·.1))
theorem srI_mem (xs : List Int) (x : Int) : x ∈ srI xs ↔ x ∈ xs := (List.mergeSort_perm xs _).mem_iff
theorem rcL_mem (L : List Ed) (a x : Int) : x ∈ rcL L a ↔ Rd (nxL L) a x := by
  unfold rcL
  rw [srI_mem, wyN_iff]
theorem rcL_len (L : List Ed) (a : Int) : (rcL L a).length = (wyN (nxL L) a).length := by
  unfold rcL
  rw [srI_len, List.length_map]
theorem rcL_le (L : List Ed) (a : Int) : (rcL L a).length ≤ L.length := by
  rw [rcL_len]
  exact wyN_len L a
theorem rcL_pw (L : List Ed) (a : Int) : (rcL L a).Pairwise (· < ·) := by
  have hs : (rcL L a).Pairwise (fun x y => decide (x ≤ y) = true) := List.pairwise_mergeSort (fun a b c h1 h2 => by simp at *; omega) (fun a b => by simp; omega) _
  have hn : (rcL L a).Nodup := (List.mergeSort_perm _ _).symm.nodup (wyN_nodup (nxL L) a)
  refine (hs.and hn).imp fun h => ?_
  obtain ⟨h1, h2⟩ := h
  simp only [decide_eq_true_eq] at h1
  omega
theorem keepL_len {K : Type} (f : K → Bool) (l : List K) : (keepL f l).length ≤ l.length := List.length_filter_le _ _
end Go.Proofs.YtcnkmhfcgkbhbaaGreat
namespace Go.Proofs.YtcnkmhfcgkbhbaaGreat
open Go.RowKit
/-- The edges of one request, of a queue, of heads. -/
def rqE (l : List Rq) (q : Rq) : List Ed := (blkV l q.id).map fun b => ⟨q.txn, b⟩
def quE (l : List Rq) : List Ed := l.flatMap (rqE l)
def hdsE (hs : List Hv) : List Ed := hs.flatMap fun x => quE x.l
theorem nrm_len (xs : List Int) : (nrm xs).length ≤ xs.length := by
  have h := (List.mergeSort_perm xs fun a b => decide (a ≤ b)).length_eq
  unfold nrm
  rw [← h]
  unfold Lib.compact Lib.compactUpTo
  rw [List.length_map]
  exact Nat.le_trans (List.length_filter_le _ _) (by simp)
theorem blkV_len (l : List Rq) (id : Int) : (blkV l id).length ≤ l.length := by
  unfold blkV
  split
  · simp
  · split
    · exact Nat.le_trans (nrm_len _) (blkL_len _ _)
    · simp
theorem rqE_len (l : List Rq) (q : Rq) : (rqE l q).length ≤ l.length := by
  unfold rqE
  rw [List.length_map]
  exact blkV_len l q.id
theorem flat_le {α β : Type} (f : α → List β) (m : Nat) : ∀ (l : List α), (∀ x ∈ l, (f x).length ≤ m) → (l.flatMap f).length ≤ l.length * m
  | [], _ => by simp
  | x :: l, h => by
    have h1 := h x (by simp)
    have h2 := flat_le f m l fun y hy => h y (by simp [hy])
    rw [List.flatMap_cons, List.length_append, List.length_cons, Nat.succ_mul]
    omega
theorem quE_len (l : List Rq) (h : l.length ≤ 12) : (quE l).length ≤ 144 := by
  have h1 := flat_le (rqE l) 12 l fun q _ => Nat.le_trans (rqE_len l q) h
  unfold quE
  have : l.length * 12 ≤ 12 * 12 := Nat.mul_le_mul_right _ h
  omega
theorem hdsE_len (hs : List Hv) (h : ∀ x ∈ hs, x.l.length ≤ 12) : (hdsE hs).length ≤ hs.length * 144 := flat_le _ 144 hs fun x hx => quE_len x.l (h x hx)
theorem quE_len1 (l : List Rq) (k : Nat) (h : l.length ≤ 12) : ((l.take k).flatMap (rqE l)).length ≤ 144 := by
  have h1 := flat_le (rqE l) 12 (l.take k) fun q _ => Nat.le_trans (rqE_len l q) h
  have h2 : (l.take k).length ≤ 12 := by rw [List.length_take]; omega
  have : (l.take k).length * 12 ≤ 12 * 12 := Nat.mul_le_mul_right _ h2
  omega
end Go.Proofs.YtcnkmhfcgkbhbaaGreat
