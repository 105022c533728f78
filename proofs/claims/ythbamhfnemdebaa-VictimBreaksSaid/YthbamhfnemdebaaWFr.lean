/-
  Plain: the reference's far tells how many edges a shortest way has. No condition.
-/
import Derived.Test.YthbamhfnemdebaaWRt
namespace Go.Proofs.Ythbamhfnemdebaa
open Go.RowKit
/-- One level looked through: none if the end is met. -/
def farI (now : List Int) (to : Int) : List Ed → List Int → List Int → Option (List Int × List Int)
  | [], sn, nx => some (sn, nx)
  | e :: l, sn, nx => if e.from_ ∉ now ∨ e.to ∈ sn then farI now to l sn nx else if e.to = to then none else farI now to l (sn ++ [e.to]) (nx ++ [e.to])
def farF (L : List Ed) (to : Int) : Nat → List Int → List Int → Int → Int
  | 0, _, _, _ => -1
  | f + 1, now, sn, n => if now = [] then -1 else match farI now to L sn [] with
    | none => n
    | some (sn', nx') => farF L to f nx' sn' (n + 1)
theorem farI_none (now : List Int) (to : Int) : ∀ (l : List Ed) (sn nx : List Int), farI now to l sn nx = none → ∃ e ∈ l, e.from_ ∈ now ∧ e.to = to
  | [], _, _, h => by cases h
  | e :: l, sn, nx, h => by
    unfold farI at h
    split at h
    · obtain ⟨x, hx, h2⟩ := farI_none now to l _ _ h
      exact ⟨x, List.mem_cons_of_mem _ hx, h2⟩
    · rename_i hc
      split at h
      · rename_i ht
        exact ⟨e, List.mem_cons_self .., Classical.byContradiction fun h => hc (.inl h), ht⟩
      · obtain ⟨x, hx, h2⟩ := farI_none now to l _ _ h
        exact ⟨x, List.mem_cons_of_mem _ hx, h2⟩
/-- What a level adds. -/
theorem farI_some (now : List Int) (to : Int) : ∀ (l : List Ed) (sn nx sn' nx' : List Int), farI now to l sn nx = some (sn', nx') →
    ∃ ad, sn' = sn ++ ad ∧ nx' = nx ++ ad ∧ (∀ x ∈ ad, x ≠ to ∧ ∃ e ∈ l, e.from_ ∈ now ∧ e.to = x) ∧ (∀ e ∈ l, e.from_ ∈ now → e.to ∈ sn') ∧ (sn.Nodup → sn'.Nodup)
  | [], sn, nx, sn', nx', h => by
    unfold farI at h
    injection h with h
    injection h with h1 h2
    exact ⟨[], by simp [h1], by simp [h2], by simp, by simp, fun h => h1 ▸ h⟩
  | e :: l, sn, nx, sn', nx', h => by
    unfold farI at h
    split at h
    · rename_i hc
      obtain ⟨ad, h1, h2, h3, h4, h5⟩ := farI_some now to l _ _ _ _ h
      refine ⟨ad, h1, h2, fun x hx => ?_, fun x hx hf => ?_, h5⟩
      · obtain ⟨h6, y, hy, h7⟩ := h3 x hx
        exact ⟨h6, y, List.mem_cons_of_mem _ hy, h7⟩
      · rcases List.mem_cons.1 hx with rfl | hx
        · rw [h1]
          exact List.mem_append_left _ (hc.resolve_left fun h => h hf)
        · exact h4 x hx hf
    · rename_i hc
      have hf : e.from_ ∈ now := Classical.byContradiction fun h => hc (.inl h)
      have hs : e.to ∉ sn := fun h => hc (.inr h)
      split at h
      · cases h
      · rename_i ht
        obtain ⟨ad, h1, h2, h3, h4, h5⟩ := farI_some now to l _ _ _ _ h
        refine ⟨e.to :: ad, by rw [h1]; simp, by rw [h2]; simp, fun x hx => ?_, fun x hx hfx => ?_, fun hn => h5 ?_⟩
        · rcases List.mem_cons.1 hx with rfl | hx
          · exact ⟨ht, e, List.mem_cons_self .., hf, rfl⟩
          · obtain ⟨h6, y, hy, h7⟩ := h3 x hx
            exact ⟨h6, y, List.mem_cons_of_mem _ hy, h7⟩
        · rcases List.mem_cons.1 hx with rfl | hx
          · rw [h1]; simp
          · exact h4 x hx hfx
        · rw [List.nodup_append]
          refine ⟨hn, by simp, fun a ha b hb => ?_⟩
          simp only [List.mem_singleton] at hb
          subst hb
          exact fun h => hs (h ▸ ha)
/-- What holds ahead of level n. -/
structure FarJ (L : List Ed) (fr to : Int) (now sn : List Int) (n : Nat) : Prop where
  n0 : 0 < n
  nw : ∀ y ∈ now, (n = 1 ∧ y = fr) ∨ (1 < n ∧ Wk (nxL L) (n - 1) fr y)
  seen : ∀ x ∈ sn, ∃ k, 0 < k ∧ k < n ∧ Wk (nxL L) k fr x
  back : ∀ k x, 0 < k → k < n → Wk (nxL L) k fr x → x ∈ sn ∧ x ≠ to
  front : (n = 1 → fr ∈ now) ∧ ∀ x, 1 < n → Wk (nxL L) (n - 1) fr x → x ∈ now ∨ ∃ k, 0 < k ∧ k < n - 1 ∧ Wk (nxL L) k fr x
theorem farJ_start (L : List Ed) (fr to : Int) : FarJ L fr to [fr] [] 1 :=
  ⟨by omega, by simp, by simp, fun k x h1 h2 _ => by omega, by simp, fun x h => by omega⟩
/-- Where one is come to at length n, who stands before it. -/
theorem wk_pred {L : List Ed} {fr to : Int} {now sn : List Int} {n : Nat} (J : FarJ L fr to now sn n) {x : Int} (h : Wk (nxL L) n fr x) : (∃ y ∈ now, ⟨y, x⟩ ∈ L) ∨ ∃ k, 0 < k ∧ k < n ∧ Wk (nxL L) k fr x := by
  rcases h.last with ⟨rfl, hb⟩ | ⟨y, h1, h2, h3⟩
  · exact .inl ⟨fr, J.front.1 rfl, (rowL_mem _ _ _).1 hb⟩
  · rcases J.front.2 y h1 h2 with h4 | ⟨k, hk0, hk, hw⟩
    · exact .inl ⟨y, h4, (rowL_mem _ _ _).1 h3⟩
    · exact .inr ⟨k + 1, by omega, by omega, hw.snoc h3⟩
theorem farJ_step {L : List Ed} {fr to : Int} {now sn sn' nx' : List Int} {n : Nat} (J : FarJ L fr to now sn n) (h : farI now to L sn [] = some (sn', nx')) : FarJ L fr to nx' sn' (n + 1) := by
  obtain ⟨ad, h1, h2, h3, h4, _⟩ := farI_some now to L _ _ _ _ h
  rw [List.nil_append] at h2
  subst h1 h2
  have hw : ∀ x ∈ nx', Wk (nxL L) n fr x := by
    intro x hx
    obtain ⟨_, e, he, hf, rfl⟩ := h3 x hx
    have hr : e.to ∈ rowL (nxL L) e.from_ := (rowL_mem _ _ _).2 he
    rcases J.nw _ hf with ⟨rfl, hy⟩ | ⟨h5, h6⟩
    · rw [hy] at hr; exact .one hr
    · have := h6.snoc hr
      rwa [show n - 1 + 1 = n by omega] at this
  have hseen : ∀ x ∈ sn ++ nx', ∃ k, 0 < k ∧ k < n + 1 ∧ Wk (nxL L) k fr x := by
    intro x hx
    rcases List.mem_append.1 hx with hx | hx
    · obtain ⟨k, h5, h6, h7⟩ := J.seen x hx
      exact ⟨k, h5, by omega, h7⟩
    · exact ⟨n, J.n0, by omega, hw x hx⟩
  have hto : ∀ x ∈ sn ++ nx', x ≠ to := by
    intro x hx
    rcases List.mem_append.1 hx with hx | hx
    · obtain ⟨k, h5, h6, h7⟩ := J.seen x hx
      exact (J.back k x h5 h6 h7).2
    · exact (h3 x hx).1
  have hback : ∀ k x, 0 < k → k < n + 1 → Wk (nxL L) k fr x → x ∈ sn ++ nx' := by
    intro k x hk0 hk hx
    by_cases hkn : k < n
    · exact List.mem_append_left _ (J.back k x hk0 hkn hx).1
    · obtain rfl : k = n := by omega
      rcases wk_pred J hx with ⟨y, hy, he⟩ | ⟨k', h5, h6, h7⟩
      · exact h4 _ he hy
      · exact List.mem_append_left _ (J.back k' x h5 h6 h7).1
  refine ⟨by omega, fun y hy => .inr ⟨by have := J.n0; omega, hw y hy⟩, hseen, fun k x h5 h6 h7 => ⟨hback k x h5 h6 h7, hto x (hback k x h5 h6 h7)⟩, fun h => by have := J.n0; omega, fun x h5 h6 => ?_⟩
  rcases List.mem_append.1 (hback n x J.n0 (by omega) h6) with h7 | h7
  · obtain ⟨k, h8, h9, h10⟩ := J.seen x h7
    exact .inr ⟨k, h8, by omega, h10⟩
  · exact .inl h7
theorem farJ_end {L : List Ed} {fr to : Int} {sn : List Int} {n : Nat} (J : FarJ L fr to [] sn n) : ∀ k, ¬ Wk (nxL L) k fr to := by
  have h1 : 1 < n := by
    have h0 := J.n0
    refine Nat.lt_of_le_of_ne h0 fun h => ?_
    have := J.front.1 h.symm
    simp at this
  have low : ∀ m x, 0 < m → m < n → Wk (nxL L) m fr x → ∃ k, 0 < k ∧ k < n - 1 ∧ Wk (nxL L) k fr x := by
    intro m x h2 h3 h4
    by_cases h5 : m < n - 1
    · exact ⟨m, h2, h5, h4⟩
    · obtain rfl : m = n - 1 := by omega
      rcases J.front.2 x h1 h4 with h6 | h6
      · simp at h6
      · exact h6
  have all : ∀ k x, Wk (nxL L) k fr x → ∃ k', 0 < k' ∧ k' < n ∧ Wk (nxL L) k' fr x := by
    intro k
    induction k with
    | zero => intro x h; have := h.pos; omega
    | succ k ih =>
      intro x h
      rcases h.last with ⟨h2, hb⟩ | ⟨y, h2, h3, hb⟩
      · exact ⟨1, by omega, h1, .one hb⟩
      · rw [Nat.add_sub_cancel] at h3
        obtain ⟨m, h4, h5, h6⟩ := ih y h3
        obtain ⟨m', h7, h8, h9⟩ := low m y h4 h5 h6
        exact ⟨m' + 1, by omega, by omega, h9.snoc hb⟩
  intro k h
  obtain ⟨k', h2, h3, h4⟩ := all k to h
  exact (J.back k' to h2 h3 h4).2 rfl
/-- What far tells. -/
def FarIs (L : List Ed) (fr to : Int) (r : Int) : Prop := (r = -1 ∧ ∀ k, ¬ Wk (nxL L) k fr to) ∨ ∃ n : Nat, r = (n : Int) ∧ Wk (nxL L) n fr to ∧ ∀ k, k < n → ¬ Wk (nxL L) k fr to
theorem farIs_met {L : List Ed} {fr to : Int} {now sn : List Int} {n : Nat} (J : FarJ L fr to now sn n) (h : farI now to L sn [] = none) : FarIs L fr to (n : Int) := by
  obtain ⟨e, he, hf, ht⟩ := farI_none now to L _ _ h
  have hr : to ∈ rowL (nxL L) e.from_ := by rw [← ht]; exact (rowL_mem _ _ _).2 he
  refine .inr ⟨n, rfl, ?_, fun k hk hw => (J.back k to hw.pos hk hw).2 rfl⟩
  rcases J.nw _ hf with ⟨rfl, hy⟩ | ⟨h5, h6⟩
  · rw [hy] at hr; exact .one hr
  · have := h6.snoc hr
    rwa [show n - 1 + 1 = n by omega] at this
theorem farIs_uniq {L : List Ed} {fr to r r' : Int} (h : FarIs L fr to r) (h' : FarIs L fr to r') : r = r' := by
  rcases h with ⟨rfl, h1⟩ | ⟨n, rfl, h1, h2⟩
  · rcases h' with ⟨rfl, _⟩ | ⟨n', rfl, h3, _⟩
    · rfl
    · exact absurd h3 (h1 _)
  · rcases h' with ⟨rfl, h3⟩ | ⟨n', rfl, h3, h4⟩
    · exact absurd h1 (h3 _)
    · rcases Nat.lt_trichotomy n n' with h5 | h5 | h5
      · exact absurd h1 (h4 n h5)
      · rw [h5]
      · exact absurd h3 (h2 n' h5)
end Go.Proofs.Ythbamhfnemdebaa
