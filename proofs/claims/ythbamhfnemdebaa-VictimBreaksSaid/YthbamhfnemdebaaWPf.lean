/-
  Plain: reachability, and what one who waits for nobody changes. No condition.
-/
import Derived.Test.YthbamhfnemdebaaWPm
namespace Go.Proofs.Ythbamhfnemdebaa
open Go.RowKit
theorem Rd.trans {N : Rw} {a b c : Int} (h : Rd N a b) (h2 : Rd N b c) : Rd N a c := by
  induction h2 with
  | one ht => exact .more h ht
  | more _ ht ih => exact .more ih ht
theorem Rd.mono {N N' : Rw} (hs : ∀ a t, t ∈ rowL N a → t ∈ rowL N' a) {a b : Int} (h : Rd N a b) : Rd N' a b := by
  induction h with
  | one ht => exact .one (hs _ _ ht)
  | more _ ht ih => exact .more ih (hs _ _ ht)
theorem Rd.first {N : Rw} {a b : Int} (h : Rd N a b) : ∃ t, t ∈ rowL N a := by
  induction h with
  | one ht => exact ⟨_, ht⟩
  | more _ _ ih => exact ih
theorem Rd.last {N : Rw} {a b : Int} (h : Rd N a b) : ∃ x, b ∈ rowL N x := by
  cases h with
  | one ht => exact ⟨_, ht⟩
  | more _ ht => exact ⟨_, ht⟩
theorem nx_mono {L L' : List Ed} (h : ∀ e ∈ L, e ∈ L') (a t : Int) (ht : t ∈ rowL (nxL L) a) : t ∈ rowL (nxL L') a := by
  rw [rowL_mem] at ht ⊢
  exact h _ ht
/-- Whom one reaches, rising. -/
def rcL (L : List Ed) (a : Int) : List Int := srI ((wyN (nxL L) a).map (·.1))
theorem srI_mem (xs : List Int) (x : Int) : x ∈ srI xs ↔ x ∈ xs := (List.mergeSort_perm xs _).mem_iff
theorem rcL_mem (L : List Ed) (a x : Int) : x ∈ rcL L a ↔ Rd (nxL L) a x := by
  unfold rcL
  rw [srI_mem, wyN_iff]
theorem rcL_len (L : List Ed) (a : Int) : (rcL L a).length = (wyN (nxL L) a).length := by
  unfold rcL
  rw [srI_len, List.length_map]
theorem rcL_le (L : List Ed) (a : Int) : (rcL L a).length ≤ L.length := by
  rw [rcL_len]
  exact wyN_len L a
theorem rcL_pw (L : List Ed) (a : Int) : (rcL L a).Pairwise (· < ·) := by
  have hs : (rcL L a).Pairwise (fun x y => decide (x ≤ y) = true) := List.pairwise_mergeSort (fun a b c h1 h2 => by simp at *; omega) (fun a b => by simp; omega) _
  have hn : (rcL L a).Nodup := (List.mergeSort_perm _ _).symm.nodup (wyN_nodup (nxL L) a)
  refine (hs.and hn).imp fun h => ?_
  obtain ⟨h1, h2⟩ := h
  simp only [decide_eq_true_eq] at h1
  omega
theorem rcL_rise (L : List Ed) (a : Int) (i : Nat) (h0 : 0 < i) (hi : i < (rcL L a).length) : (rcL L a).getD (i - 1) 0 < (rcL L a).getD i 0 := by
  have h := List.pairwise_iff_getElem.1 (rcL_pw L a) (i - 1) i (by omega) hi (by omega)
  simpa [List.getD, show i - 1 < (rcL L a).length by omega, hi] using h
theorem rcL_some (L : List Ed) (a x : Int) (h : x ∈ rcL L a) : ∀ y ∈ rcL L x, y ∈ rcL L a := by
  intro y hy
  rw [rcL_mem] at *
  exact h.trans hy
theorem rcL_mono {L L' : List Ed} (h : ∀ e ∈ L, e ∈ L') (a : Int) : ∀ y ∈ rcL L a, y ∈ rcL L' a := by
  intro y hy
  rw [rcL_mem] at *
  exact hy.mono (nx_mono h)
theorem keepL_on (x : Int) (L : List Ed) (e : Ed) : e ∈ keepL (onE x) L ↔ e ∈ L ∧ e.from_ ≠ x ∧ e.to ≠ x := by
  unfold keepL
  rw [List.mem_filter]
  simp [onE]
theorem rcL_gone (L : List Ed) (a x : Int) : x ∉ rcL (keepL (onE x) L) a := by
  rw [rcL_mem]
  intro h
  obtain ⟨y, hy⟩ := h.last
  rw [rowL_mem, keepL_on] at hy
  exact hy.2.2 rfl
theorem rcL_none {L : List Ed} {x : Int} : rcL L x = [] ↔ rowL (nxL L) x = [] := by
  constructor
  · intro h
    rw [List.eq_nil_iff_forall_not_mem]
    intro t ht
    have : t ∈ rcL L x := (rcL_mem _ _ _).2 (.one ht)
    rw [h] at this
    simp at this
  · intro h
    rw [List.eq_nil_iff_forall_not_mem]
    intro t ht
    obtain ⟨y, hy⟩ := ((rcL_mem _ _ _).1 ht).first
    rw [h] at hy
    simp at hy
theorem rcL_out (L : List Ed) (x : Int) : rcL (keepL (onE x) L) x = [] := by
  rw [rcL_none, List.eq_nil_iff_forall_not_mem]
  intro t ht
  rw [rowL_mem, keepL_on] at ht
  exact ht.2.1 rfl
theorem keepL_len {K : Type} (f : K → Bool) (l : List K) : (keepL f l).length ≤ l.length := List.length_filter_le _ _
/-- Without a cycle somebody waited for waits for nobody. -/
theorem free_ex (L : List Ed) (h : ∀ e ∈ L, ¬ Rd (nxL L) e.from_ e.from_) : ∀ n, ∀ e ∈ L, (rcL L e.to).length ≤ n → ∃ e' ∈ L, rcL L e'.to = []
  | 0, e, he, hn => ⟨e, he, List.eq_nil_of_length_eq_zero (by omega)⟩
  | n + 1, e, he, hn => by
    by_cases h0 : rcL L e.to = []
    · exact ⟨e, he, h0⟩
    · rw [rcL_none] at h0
      obtain ⟨t, ht⟩ := List.exists_mem_of_ne_nil _ h0
      have hE := (rowL_mem _ _ _).1 ht
      refine free_ex L h n ⟨e.to, t⟩ hE ?_
      have h1 : t ∉ rcL L t := by
        rw [rcL_mem]
        intro hr
        obtain ⟨u, hu⟩ := hr.first
        exact h ⟨t, u⟩ ((rowL_mem _ _ _).1 hu) hr
      have h2 : t ∈ rcL L e.to := (rcL_mem _ _ _).2 (.one ht)
      have h3 : ∀ y ∈ rcL L t, y ∈ (rcL L e.to).erase t := fun y hy => (List.mem_erase_of_ne (fun hyt : y = t => h1 (hyt ▸ hy))).2 (rcL_some L _ t h2 y hy)
      have h4 : (rcL L t).Nodup := (rcL_pw L t).imp fun h => by omega
      have h5 := nodup_len _ _ h4 h3
      rw [List.length_erase_of_mem h2] at h5
      have := List.length_pos_of_mem h2
      simp only
      omega
/-- Without one. -/
def flB (x : Int) (bk : Bk) : Bk := bk.filter fun p => !decide (p.1 = x)
def flI (x : Int) (l : List Int) : List Int := l.filter fun y => !decide (y = x)
theorem flB_app (x : Int) (a b : Bk) : flB x (a ++ b) = flB x a ++ flB x b := List.filter_append ..
theorem flB_key (x : Int) : ∀ bk : Bk, (flB x bk).map (·.1) = flI x (bk.map (·.1))
  | [] => rfl
  | p :: bk => by
    have ih := flB_key x bk
    unfold flB flI at ih ⊢
    rw [List.filter_cons, List.map_cons, List.filter_cons]
    cases decide (p.1 = x) with
    | true => simpa using ih
    | false => simpa using ih
theorem flB_has {x y : Int} (h : y ≠ x) (bk : Bk) : hasL (flB x bk) y = hasL bk y := by
  have := hasL_delL bk x y
  rw [show delL bk x = flB x bk from rfl] at this
  rw [this]
  simp [h]
theorem flB_get {x y : Int} (h : y ≠ x) (bk : Bk) : getL (flB x bk) y = getL bk y := by
  have := getL_delL bk x y
  rw [show delL bk x = flB x bk from rfl] at this
  rw [this, if_neg h]
theorem nbr_fl (x a : Int) : ∀ (ts : List Int) (bk : Bk), nbr a (flI x ts) (flB x bk) = flB x (nbr a ts bk)
  | [], bk => rfl
  | t :: ts, bk => by
    have e : nbr a (t :: ts) bk = nbr a ts (if hasL bk t then bk else bk ++ [(t, a)]) := rfl
    rw [e, ← nbr_fl x a ts]
    by_cases ht : t = x
    · have e1 : flI x (t :: ts) = flI x ts := by simp [flI, ht]
      rw [e1]
      split
      · rfl
      · rw [flB_app]
        simp [flB, ht]
    · have e1 : flI x (t :: ts) = t :: flI x ts := by simp [flI, ht]
      rw [e1]
      have e2 : nbr a (t :: flI x ts) (flB x bk) = nbr a (flI x ts) (if hasL (flB x bk) t then flB x bk else flB x bk ++ [(t, a)]) := rfl
      rw [e2, flB_has ht]
      split
      · rfl
      · rw [flB_app]
        simp [flB, ht]
theorem Bfs.fl {N N' : Rw} {x : Int} (hx : rowL N x = []) (hN : ∀ a, rowL N' a = flI x (rowL N a)) {bk r : Bk} {td : List Int} (h : Bfs N bk td r) : Bfs N' (flB x bk) (flI x td) (flB x r) := by
  induction h with
  | nil => exact .nil
  | @step bk a td r _ ih =>
    by_cases ha : a = x
    · subst ha
      rw [hx] at ih
      have e1 : nbr a [] bk = bk := rfl
      rw [e1, List.drop_length, List.map_nil, List.append_nil] at ih
      have e2 : flI a (a :: td) = flI a td := by simp [flI]
      rw [e2]
      exact ih
    · have e2 : flI x (a :: td) = a :: flI x td := by simp [flI, ha]
      rw [e2]
      refine .step ?_
      rw [hN, nbr_fl]
      obtain ⟨ex, he⟩ := nbr_keys a (rowL N a) bk
      rw [he] at ih ⊢
      rw [flB_app, List.drop_left, flB_key]
      rw [List.drop_left] at ih
      have e3 : flI x (td ++ ex.map (·.1)) = flI x td ++ flI x (ex.map (·.1)) := List.filter_append ..
      rw [e3] at ih
      rw [flB_app] at ih
      exact ih
theorem wyN_fl {N N' : Rw} {x : Int} (hx : rowL N x = []) (hN : ∀ a, rowL N' a = flI x (rowL N a)) {fr : Int} (hf : fr ≠ x) : wyN N' fr = flB x (wyN N fr) := by
  have h := (wyN_steps N fr).fl hx hN
  have e1 : flB x ([] : Bk) = [] := rfl
  have e2 : flI x [fr] = [fr] := by simp [flI, hf]
  rw [e1, e2] at h
  exact (wyN_steps N' fr).uniq h
theorem path_fl {N : Rw} {x fr : Int} (hx : rowL N x = []) (hf : fr ≠ x) {bk : Bk} (hn : NodupL bk) (ht : trOK fr bk) (hp : ∀ p ∈ bk, p.1 ∈ rowL N p.2) : ∀ (f : Nat) (y : Int), y ≠ x → (y = fr ∨ y ∈ bk.map (·.1)) → pathB (flB x bk) fr f y = pathB bk fr f y
  | 0, _, _, _ => rfl
  | f + 1, y, hy, hm => by
    by_cases hyf : y = fr
    · subst hyf; rw [pathB_fr, pathB_fr]
    · rw [pathB_ne _ _ hyf, pathB_ne _ _ hyf]
      have hk := hm.resolve_left hyf
      have e : stepB (flB x bk) y = stepB bk y := by unfold stepB; rw [flB_get hy]
      have hs := stepB_mem hn hk
      have hne : stepB bk y ≠ x := by
        intro h
        have h2 := hp _ hs
        simp only at h2
        rw [h, hx] at h2
        simp at h2
      rw [e, path_fl hx hf hn ht hp f _ hne ((posB_step hn ht hk).imp id (·.1))]
/-- The rows without one that waits for nobody. -/
theorem row_out (L : List Ed) (x : Int) (hx : rowL (nxL L) x = []) (a : Int) : rowL (nxL (keepL (onE x) L)) a = flI x (rowL (nxL L) a) := by
  have hL : sdE (keepL (onE x) L) = (sdE L).filter fun e => !onE x e := by
    refine ltE_uniq _ _ (sdE_pw _) ((sdE_pw L).filter _) fun e => ?_
    rw [sdE_mem, List.mem_filter, sdE_mem]
    unfold keepL
    rw [List.mem_filter]
  rw [rowL_nx, rowL_nx, hL]
  have hno : ∀ e ∈ sdE L, e.from_ ≠ x := by
    intro e he h
    have : e.to ∈ rowL (nxL L) x := (rowL_mem _ _ _).2 (by rw [← h]; exact (sdE_mem L e).1 he)
    rw [hx] at this
    simp at this
  clear hL
  generalize sdE L = S at *
  induction S with
  | nil => rfl
  | cons e S ih =>
    have hne := hno e (List.mem_cons_self ..)
    have ih2 := ih (fun e he => hno e (List.mem_cons_of_mem _ he))
    by_cases h1 : e.to = x
    · have e1 : onE x e = true := by simp [onE, h1]
      rw [List.filter_cons_of_neg (by simp [e1]), ih2]
      by_cases h2 : e.from_ = a
      · rw [List.filter_cons_of_pos (by simp [h2])]
        simp [flI, h1]
      · rw [List.filter_cons_of_neg (by simp [h2])]
    · have e1 : onE x e = false := by simp [onE, h1, hne]
      rw [List.filter_cons_of_pos (by simp [e1])]
      by_cases h2 : e.from_ = a
      · rw [List.filter_cons_of_pos (by simp [h2]), List.filter_cons_of_pos (by simp [h2]), List.map_cons, List.map_cons, ih2]
        simp [flI, h1]
      · rw [List.filter_cons_of_neg (by simp [h2]), List.filter_cons_of_neg (by simp [h2]), ih2]
theorem cyc_none (L : List Ed) (h : ∀ e ∈ L, ¬ Rd (nxL L) e.from_ e.from_) : cyc L = ([], false) := cycG_no _ _ fun e he => h e ((sdE_mem L e).1 he)
theorem cyc_at (L : List Ed) (fr : Int) (hr : Rd (nxL L) fr fr) (hm : ∀ e ∈ L, Rd (nxL L) e.from_ e.from_ → fr ≤ e.from_) : cyc L = rsC (nxL L) fr := by
  obtain ⟨t, ht⟩ := hr.first
  exact cycG_min _ fr _ (sd_from L) ⟨⟨fr, t⟩, (sdE_mem L _).2 ((rowL_mem _ _ _).1 ht), rfl⟩ hr fun e he => hm e ((sdE_mem L e).1 he)
/-- Without one that waits for nobody the cycle is the same. -/
theorem cyc_out (L : List Ed) (x : Int) (hx : rowL (nxL L) x = []) : cyc (keepL (onE x) L) = cyc L := by
  have hN := row_out L x hx
  have hsub : ∀ e ∈ keepL (onE x) L, e ∈ L := fun e he => ((keepL_on x L e).1 he).1
  rcases cyc_cases L with ⟨h1, h2⟩ | ⟨fr, h1, h2, _, h4⟩
  · rw [h1]
    exact cyc_none _ fun e he hr => h2 e (hsub e he) (hr.mono (nx_mono hsub))
  · have hf : fr ≠ x := by
      rintro rfl
      obtain ⟨t, ht⟩ := h2.first
      rw [hx] at ht
      simp at ht
    have hw := wyN_fl hx hN hf
    have hr : Rd (nxL (keepL (onE x) L)) fr fr := by rw [← hasW_iff, hw, flB_has hf, hasW_iff]; exact h2
    rw [h1, cyc_at _ fr hr fun e he hr => h4 e (hsub e he) (hr.mono (nx_mono hsub))]
    have hk := (wyN_iff _ _ _).2 h2
    have hk' := (wyN_iff _ _ _).2 hr
    have hs := stepB_mem (wyN_nodup (nxL L) fr) hk
    have hne : stepB (wyN (nxL L) fr) fr ≠ x := by
      intro h
      have h2 := wyN_par _ _ _ hs
      simp only at h2
      rw [h, hx] at h2
      simp at h2
    have e : stepB (wyN (nxL (keepL (onE x) L)) fr) fr = stepB (wyN (nxL L) fr) fr := by rw [hw]; unfold stepB; rw [flB_get hf]
    unfold rsC
    have hon := onB_start hk'
    have hle : (wyN (nxL (keepL (onE x) L)) fr).length ≤ (wyN (nxL L) fr).length := by rw [hw]; exact List.length_filter_le _ _
    rw [path_fuel (wyN_nodup _ _) (wyN_tr _ _) _ (wyN (nxL L) fr).length _ hon (hon.imp id fun h => ⟨h.1, by have := h.2; omega⟩), e, hw]
    rw [path_fl hx hf (wyN_nodup (nxL L) fr) (wyN_tr _ _) (wyN_par (nxL L) fr) _ _ hne ((posB_step (wyN_nodup (nxL L) fr) (wyN_tr _ _) hk).imp id (·.1))]
end Go.Proofs.Ythbamhfnemdebaa
