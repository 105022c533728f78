/-
  StoreMap, the plain law: what a map of last calls tells of a store. No condition.
-/
import Derived.Test.YtbpeajcfabjphaaTAct
import Derived.Test.YtbpeajcfabjphaaSDl
namespace Go.Proofs.Ytbpeajcfabjphaa
open Go.RowKit
def lastV (M : Ent) (a : Int × Int) : Int := (getL M a).getD 0
theorem lastV_put (M : Ent) (a b : Int × Int) (v : Int) : lastV (putL M a v) b = if b = a then v else lastV M b := by
  unfold lastV
  rw [getL_putL]
  split <;> rfl
structure Inv (E M : Ent) (L : List A4) (i : Nat) : Prop where
  v : ∀ a, (lastV M a = 0 ∧ getL E a = none) ∨ ∃ (j : Nat) (x : A4), j < i ∧ L[j]? = some x ∧ lastV M a = (j : Int) + 1 ∧ getL E a = some x.v
  r : ∀ a, hasL E a = true → isRec a = true
theorem Inv.zero (L : List A4) : Inv [] [] L 0 := ⟨fun _ => .inl ⟨rfl, rfl⟩, fun a h => by cases h⟩
section
variable {E M : Ent} {L : List A4} {i : Nat} {x : A4}
theorem Inv.stay (h : Inv E M L i) : Inv E M L (i + 1) := ⟨fun a => (h.v a).imp id fun ⟨j, x, h1, h2⟩ => ⟨j, x, by omega, h2⟩, h.r⟩
theorem Inv.put (h : Inv E M L i) (hx : L[i]? = some x) (hr : isRec x.key = true) : Inv (putL E x.key x.v) (putL M x.key ((i : Int) + 1)) L (i + 1) := by
  refine ⟨fun a => ?_, fun a ha => ?_⟩
  · rw [lastV_put, getL_putL]
    by_cases e : a = x.key
    · rw [if_pos e, if_pos e]
      exact .inr ⟨i, x, Nat.lt_succ_self i, hx, rfl, rfl⟩
    · rw [if_neg e, if_neg e]
      exact h.stay.v a
  · rw [← getL_isSome, getL_putL] at ha
    by_cases e : a = x.key
    · rw [e]
      exact hr
    · rw [if_neg e, getL_isSome] at ha
      exact h.r a ha
theorem Inv.del (h : Inv E M L i) (k : Int × Int) : Inv (delL E k) (putL M k 0) L (i + 1) := by
  refine ⟨fun a => ?_, fun a ha => ?_⟩
  · rw [lastV_put, getL_delL]
    by_cases e : a = k
    · rw [if_pos e, if_pos e]
      exact .inl ⟨rfl, rfl⟩
    · rw [if_neg e, if_neg e]
      exact h.stay.v a
  · rw [← getL_isSome, getL_delL] at ha
    by_cases e : a = k
    · rw [if_pos e] at ha
      cases ha
    · rw [if_neg e, getL_isSome] at ha
      exact h.r a ha
theorem Inv.no (h : Inv E M L i) (k : Int × Int) (hr : isRec k = false) : Inv E (putL M k 0) L (i + 1) := by
  refine ⟨fun a => ?_, h.r⟩
  rw [lastV_put]
  by_cases e : a = k
  · rw [if_pos e]
    refine .inl ⟨rfl, ?_⟩
    rw [getL_none_iff]
    cases hh : hasL E a with
    | false => rfl
    | true =>
      have := h.r a hh
      rw [e, hr] at this
      cases this
  · rw [if_neg e]
    exact h.stay.v a
end
/-! ### the rows -/
def Inv2 (E M0 M : Ent) (k : Nat) : Prop := ∀ a, lastV M a = if a ∈ ((srtE E).take k).map (·.1) then 0 else lastV M0 a
theorem Inv2.zero (E M : Ent) : Inv2 E M M 0 := fun a => by simp
theorem srt_keys {E : Ent} (hn : NodupL E) : ((srtE E).map (·.1)).Nodup := ((srtE_perm E).map _).nodup_iff.2 hn
section
variable {E M0 M : Ent} {L : List A4} {n k : Nat} {p q : (Int × Int) × Int}
theorem row_at (h : Inv E M0 L n) (hn : NodupL E) (h2 : Inv2 E M0 M k) (hp : (srtE E)[k]? = some p) :
    ∃ (j : Nat) (x : A4), j < n ∧ L[j]? = some x ∧ lastV M p.1 = (j : Int) + 1 ∧ x.v = p.2 ∧ getL E p.1 = some p.2 ∧ Inv2 E M0 (putL M p.1 0) (k + 1) := by
  have hg : getL E p.1 = some p.2 := (getL_some_iff hn).2 ((srtE_perm E).mem_iff.1 (List.mem_of_getElem? hp))
  have htk : (srtE E).take (k + 1) = (srtE E).take k ++ [p] := by rw [List.take_add_one, hp]; rfl
  have hni : p.1 ∉ ((srtE E).take k).map (·.1) := by
    have hd := srt_keys hn
    rw [← List.take_append_drop (k + 1) (srtE E), htk, List.map_append, List.map_append] at hd
    have := (List.nodup_append.1 (List.nodup_append.1 hd).1).2.2
    intro hm
    exact this p.1 hm p.1 (by simp) rfl
  have hl := h2 p.1
  rw [if_neg hni] at hl
  rcases h.v p.1 with ⟨_, h0⟩ | ⟨j, x, h3, h4, h5, h6⟩
  · rw [hg] at h0
    cases h0
  · rw [hg] at h6
    refine ⟨j, x, h3, h4, hl.trans h5, (Option.some.inj h6).symm, hg, fun a => ?_⟩
    rw [lastV_put, htk, List.map_append]
    by_cases e : a = p.1
    · rw [if_pos e, if_pos (by rw [e]; simp)]
    · rw [if_neg e, h2 a]
      simp [e]
theorem row_lt (hn : NodupL E) (hp : (srtE E)[k]? = some p) (hq : (srtE E)[k + 1]? = some q) : cmpN p.1.1 p.1.2 q.1.1 q.1.2 = -1 := by
  have h1 := srtE_pw E
  have h2 := srt_keys hn
  obtain ⟨k1, rfl⟩ := List.getElem?_eq_some_iff.1 hp
  obtain ⟨k2, rfl⟩ := List.getElem?_eq_some_iff.1 hq
  have a1 := List.pairwise_iff_getElem.1 h1 k (k + 1) k1 k2 (Nat.lt_succ_self k)
  rw [List.Nodup, List.pairwise_map] at h2
  have a2 := List.pairwise_iff_getElem.1 h2 k (k + 1) k1 k2 (Nat.lt_succ_self k)
  generalize (srtE E)[k] = p at *
  generalize (srtE E)[k + 1] = q at *
  obtain ⟨⟨a, b⟩, _⟩ := p
  obtain ⟨⟨c, d⟩, _⟩ := q
  have := cmpN_spec a b c d
  simp only [leN, ne_eq, Prod.mk.injEq] at a1 a2 ⊢
  omega
theorem Inv2.done (h : Inv E M0 L n) (h2 : Inv2 E M0 M (srtE E).length) (a : Int × Int) : lastV M a = 0 := by
  rw [h2 a, List.take_length]
  by_cases e : a ∈ (srtE E).map (·.1)
  · rw [if_pos e]
  · rw [if_neg e]
    rcases h.v a with ⟨h0, _⟩ | ⟨j, x, _, _, _, h6⟩
    · exact h0
    · refine absurd (((srtE_perm E).map (·.1)).mem_iff.2 ?_) e
      rw [← hasL_iff, ← getL_isSome, h6]
      rfl
end
/-! ### the tables -/
def sumT (E : Ent) : Nat → Nat
  | 0 => 0
  | T + 1 => sumT E T + (tabL T E).length
theorem cnt_step (T : Nat) : ∀ l : Ent, l.countP (fun p => decide (0 ≤ p.1.1 ∧ p.1.1 < ((T + 1 : Nat) : Int))) = l.countP (fun p => decide (0 ≤ p.1.1 ∧ p.1.1 < (T : Int))) + (keepL (outT T) l).length := by
  intro l
  induction l with
  | nil => rfl
  | cons p l ih =>
    have hk : (keepL (outT T) (p :: l)).length = (keepL (outT T) l).length + (if p.1.1 = (T : Int) then 1 else 0) := by
      unfold keepL outT
      by_cases e : p.1.1 = (T : Int)
      · simp [e]
      · simp [e]
    rw [List.countP_cons, List.countP_cons, ih, hk]
    simp only [decide_eq_true_eq]
    split <;> split <;> split <;> omega
theorem sumT_cnt (E : Ent) : ∀ T : Nat, sumT E T = (srtE E).countP (fun p => decide (0 ≤ p.1.1 ∧ p.1.1 < (T : Int))) := by
  intro T
  induction T with
  | zero =>
    refine (List.countP_eq_zero.2 fun p _ => ?_).symm
    simp only [decide_eq_true_eq]
    omega
  | succ T ih =>
    rw [cnt_step, ← ih]
    rfl
theorem sumT_le (E : Ent) (T : Nat) : sumT E T ≤ E.length := by
  rw [sumT_cnt, ← srtE_len E]
  exact List.countP_le_length
theorem sumT_all {E M : Ent} {L : List A4} {n : Nat} (h : Inv E M L n) : sumT E 100 = (srtE E).length := by
  rw [sumT_cnt, List.countP_eq_length]
  intro p hp
  have hm : p.1 ∈ E.map (·.1) := List.mem_map_of_mem ((srtE_perm E).mem_iff.1 hp)
  have hr := rec_yes (t := p.1.1) (r := p.1.2) (h.r p.1 (hasL_iff.2 hm))
  have := lv_spec p.1.1 p.1.2
  rw [decide_eq_true_eq]
  omega
end Go.Proofs.Ytbpeajcfabjphaa
