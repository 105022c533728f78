/-
  What is true of every head behind calls and scans: a plain law. No condition.
-/
import Derived.Test.YtmacpjnkmkaloaaQBl
import Derived.Test.YtmacpjnkmkaloaaQTl
namespace Go.Proofs.Ytmacpjnkmkaloaa
open Go.RowKit
/-- Nothing can be granted. -/
def Calm (l : List Rq) : Prop := firstI l < 0 ∨ l.any (fitsP (l.getD (firstI l).toNat default)) = true
theorem calm_scan {l : List Rq} (h : Calm l) : ∀ g ids, scanN g l ids = (l, ids)
  | 0, ids => rfl
  | g + 1, ids => by
    unfold scanN
    rcases h with h | h
    · rw [if_pos h]
    · by_cases h0 : firstI l < 0
      · rw [if_pos h0]
      · rw [if_neg h0, if_pos h]
theorem scan_calm : ∀ (g : Nat) (l : List Rq) (ids : List Int), opens l ≤ g → Wants l → Calm (scanN g l ids).1
  | 0, l, ids, h, _ => by
    refine .inl ?_
    show firstI l < 0
    rcases Int.lt_or_le (firstI l) 0 with h1 | h1
    · exact h1
    · obtain ⟨i, _, hi, ho⟩ := firstI_spec l h1
      have : 0 < opens l := List.countP_pos_iff.2 ⟨_, getD_mem l i hi, ho⟩
      omega
  | g + 1, l, ids, h, hw => by
    unfold scanN
    split
    · rename_i h0
      exact .inl h0
    · rename_i h0
      split
      · rename_i h1
        exact .inr h1
      · obtain ⟨i, hi, hil, ho⟩ := firstI_spec l (by omega)
        rw [hi, Int.toNat_natCast]
        have := opens_grant l i hil ho (hw _ (getD_mem l i hil) ho)
        exact scan_calm g _ _ (by omega) (wants_grant l i hw hil ho)
theorem do_calm {l : List Rq} {n : Int} (a : Ac) (h : Ord n l) (hn : n < 4611686018427387904) (hc : Calm l) : Calm (doV (l, n) a).1 := by
  unfold doV
  cases hx : callV (l, n) a with
  | none => exact hc
  | some r => exact scan_calm _ _ _ (Nat.le_refl _) (checkB_wants _ _ ((ord_iff _ _).2 (ord_call h hn hx).1))
theorem calm_nil : Calm [] := .inl (by decide)
theorem blk1 {o q : Rq} (h1 : o.id ≠ q.id) (h2 : o.mode ≠ 0) (h3 : comB o.mode q.want = false) : blocksB o q = true := by simp [blocksB, h1, h2, h3]
theorem blk2 {p q : Rq} (h1 : p.id ≠ q.id) (hu : upB p = true) (h : q.mode = 0 ∨ p.since < q.since) : blocksB p q = true := by
  unfold blocksB
  rw [if_neg (by simpa using h1)]
  by_cases hc : (p.mode != 0 && !comB p.mode q.want) = true
  · rw [if_pos hc]
  · rw [if_neg hc, if_pos hu]
    rcases h with h | h <;> simp [h]
theorem blk3 {p q : Rq} (h1 : p.id ≠ q.id) (hp : p.mode = 0) (hq : q.mode = 0) (h : p.since < q.since) : blocksB p q = true := by simp [blocksB, upB, h1, hp, hq, h]
/-- Who waits has somebody in its way. -/
theorem hold_blk {n : Int} {l : List Rq} (h : Ord n l) (hc : Calm l) (k : Nat) (hk : k < l.length) (hs : 0 < (l.getD k default).since) : ∃ o ∈ l, blocksB o (l.getD k default) = true := by
  have hq : ¬ firstI l < 0 := by
    intro h0
    obtain ⟨h1, h2⟩ := first_neg l h0 _ (getD_mem l k hk)
    simp only [upB, Bool.and_eq_false_iff, bne_eq_false_iff_eq, decide_eq_false_iff_not] at h2
    rcases h2 with h2 | h2
    · exact h1 h2
    · exact h2 hs
  obtain ⟨i, hi, hil, hop⟩ := firstI_spec l (by omega)
  have hfit := hc.resolve_left hq
  rw [hi, Int.toNat_natCast] at hfit
  obtain ⟨_, _, hw⟩ := first_pos l i hi
  have hne : ∀ a b, a < l.length → b < l.length → a ≠ b → (l.getD a default).id ≠ (l.getD b default).id ∧ (0 < (l.getD a default).since → 0 < (l.getD b default).since → (l.getD a default).since ≠ (l.getD b default).since) := by
    intro a b ha hb hab
    rcases Nat.lt_trichotomy a b with hlt | heq | hgt
    · obtain ⟨p1, _, p3, _⟩ := h.pair a b hlt hb
      exact ⟨p1, fun h1 _ => p3 h1⟩
    · exact absurd heq hab
    · obtain ⟨p1, _, p3, _⟩ := h.pair b a hgt ha
      exact ⟨fun e => p1 e.symm, fun _ h2 e => p3 h2 e.symm⟩
  by_cases hki : k = i
  · subst hki
    obtain ⟨o, ho, hf⟩ := List.any_eq_true.1 hfit
    simp only [fitsP, Bool.and_eq_true, bne_iff_ne, ne_eq, Bool.not_eq_true'] at hf
    exact ⟨o, ho, blk1 hf.1 hf.2.1 hf.2.2⟩
  · obtain ⟨hid, hsn⟩ := hne i k hil hk (fun e => hki e.symm)
    refine ⟨l.getD i default, getD_mem l i hil, ?_⟩
    rcases hw with ⟨hu, hmin⟩ | ⟨hm0, hno, hj⟩
    · have hu2 := hu
      simp only [upB, Bool.and_eq_true, bne_iff_ne, ne_eq, decide_eq_true_eq] at hu2
      refine blk2 hid hu ?_
      by_cases hqm : (l.getD k default).mode = 0
      · exact .inl hqm
      · have hle := hmin _ (getD_mem l k hk) (by simp only [upB, Bool.and_eq_true, bne_iff_ne, ne_eq, decide_eq_true_eq]; exact ⟨hqm, hs⟩)
        have hd := hsn hu2.2 hs
        exact .inr (by omega)
    · have hqm : (l.getD k default).mode = 0 := by
        have := hno _ (getD_mem l k hk)
        simp only [upB, Bool.and_eq_false_iff, bne_eq_false_iff_eq, decide_eq_false_iff_not] at this
        rcases this with h1 | h1
        · exact h1
        · exact absurd hs h1
      have hik : i < k := by
        rcases Nat.lt_trichotomy i k with h1 | h1 | h1
        · exact h1
        · exact absurd h1.symm hki
        · exact absurd hqm (hj k h1)
      obtain ⟨_, _, p3, p4, _⟩ := h.pair i k hik hk
      have hsi := ((h.right _ (getD_mem l i hil)).wait hop).1
      have h1 := (p4 hm0).2
      have h2 := p3 hsi
      exact blk3 hid hm0 hqm (by omega)
theorem nrm_ne {xs : List Int} (h : xs ≠ []) : 0 < (nrm xs).length := by
  have h1 : (xs.mergeSort fun a b => decide (a ≤ b)).length = xs.length := (List.mergeSort_perm xs _).length_eq
  have h2 : 0 < xs.length := List.length_pos_iff.2 h
  unfold nrm
  generalize xs.mergeSort (fun a b => decide (a ≤ b)) = ys at *
  unfold Lib.compact Lib.compactUpTo
  rw [List.length_map]
  refine List.length_pos_iff.2 (List.ne_nil_of_mem (a := 0) (List.mem_filter.2 ⟨List.mem_range.2 (by omega), Lib.keeps_lt_one _ 0 (by omega)⟩))
theorem blkV_iff {n : Int} {l : List Rq} (h : Ord n l) (hc : Calm l) (k : Nat) (hk : k < l.length) : decide (0 < (blkV l (l.getD k default).id).length) = decide (0 < (l.getD k default).since) := by
  unfold blkV
  rw [plc_at h k hk, if_neg (by omega), Int.toNat_natCast]
  by_cases hs : 0 < (l.getD k default).since
  · rw [if_pos hs, decide_eq_true hs]
    obtain ⟨o, ho, hb⟩ := hold_blk h hc k hk hs
    refine decide_eq_true (nrm_ne ?_)
    unfold blkL
    exact List.ne_nil_of_mem (List.mem_map.2 ⟨o, List.mem_filter.2 ⟨ho, hb⟩, rfl⟩)
  · rw [if_neg hs, decide_eq_false hs]
    rfl
theorem sup_covers : ∀ a b : Fin 7, covB (supV (a.val : Int) (b.val : Int)) (a.val : Int) = true ∧ covB (supV (a.val : Int) (b.val : Int)) (b.val : Int) = true := by decide +kernel
theorem cov_trans : ∀ a b c : Fin 7, covB (a.val : Int) (b.val : Int) = true → covB (b.val : Int) (c.val : Int) = true → covB (a.val : Int) (c.val : Int) = true := by decide +kernel
theorem cov_self : ∀ a : Fin 7, covB (a.val : Int) (a.val : Int) = true := by decide +kernel
theorem fold_covers : ∀ (ms : List Int) (a : Int), knownB a = true → (∀ m ∈ ms, knownB m = true) → ∀ x, (x = a ∨ x ∈ ms) → covB (ms.foldl supV a) x = true
  | [], a, ha, _, x, hx => by
    rcases hx with rfl | hx
    · obtain ⟨i, rfl, hi⟩ := known_nat ha
      exact cov_self ⟨i, hi⟩
    · cases hx
  | m :: ms, a, ha, hm, x, hx => by
    have hmk := hm m (by simp)
    have hsk := (sup_facts a m ha hmk).1
    have ih := fold_covers ms (supV a m) hsk (fun y hy => hm y (by simp [hy]))
    have hfk : ∀ (ms : List Int) (a : Int), knownB a = true → (∀ m ∈ ms, knownB m = true) → knownB (ms.foldl supV a) = true := by
      intro ms
      induction ms with
      | nil => exact fun a h _ => h
      | cons y ms ih2 => exact fun a h h2 => ih2 _ (sup_facts a y h (h2 y (by simp))).1 (fun z hz => h2 z (by simp [hz]))
    have hF := hfk ms (supV a m) hsk (fun y hy => hm y (by simp [hy]))
    have h1 := ih (supV a m) (.inl rfl)
    obtain ⟨i, rfl, hi⟩ := known_nat ha
    obtain ⟨j, rfl, hj⟩ := known_nat hmk
    have hc := sup_covers ⟨i, hi⟩ ⟨j, hj⟩
    simp only [List.foldl_cons]
    obtain ⟨s, hs, hs7⟩ := known_nat hsk
    obtain ⟨F, hF1, hF7⟩ := known_nat hF
    rcases hx with rfl | hx
    · rw [hs] at h1 hc
      rw [hs] at hF1 ⊢
      rw [hF1] at h1 ⊢
      exact cov_trans ⟨F, hF7⟩ ⟨s, hs7⟩ ⟨i, hi⟩ h1 hc.1
    · rcases List.mem_cons.1 hx with rfl | hx
      · rw [hs] at h1 hc
        rw [hs] at hF1 ⊢
        rw [hF1] at h1 ⊢
        exact cov_trans ⟨F, hF7⟩ ⟨s, hs7⟩ ⟨j, hj⟩ h1 hc.2
      · exact ih x (.inr hx)
theorem group_covers {n : Int} {l : List Rq} (h : Ord n l) (k : Nat) (hk : k < l.length) : covB (supL (l.map (·.mode))) (l.getD k default).mode = true := by
  unfold supL
  refine fold_covers _ 0 (by decide) (fun m hm => ?_) _ (.inr (List.mem_map.2 ⟨_, getD_mem l k hk, rfl⟩))
  obtain ⟨r, hr, rfl⟩ := List.mem_map.1 hm
  exact (h.right r hr).2.1
theorem mode_of {n : Int} {l : List Rq} (h : Ord n l) (k : Nat) (hk : k < l.length) : modeOf l (l.getD k default).txn = (l.getD k default).mode := by
  unfold modeOf
  have hn : ¬ idxF (fun q : Rq => q.txn == (l.getD k default).txn) l 0 < 0 := by
    intro hneg
    have := idxF_any (fun q : Rq => q.txn == (l.getD k default).txn) l 0
    rw [decide_eq_false (by omega)] at this
    have h2 := List.any_eq_false.1 this.symm _ (getD_mem l k hk)
    simp at h2
  rcases idxF_bd (fun q : Rq => q.txn == (l.getD k default).txn) l 0 with h' | ⟨j, h1, h2, h3⟩
  · omega
  · rw [Nat.zero_add] at h1
    rw [if_neg hn, h1, Int.toNat_natCast]
    have hjk : j = k := by
      have h3' : (l.getD j default).txn = (l.getD k default).txn := by simpa using h3
      rcases Nat.lt_trichotomy j k with hlt | heq | hgt
      · exact absurd h3' (h.pair j k hlt hk).2.1
      · exact heq
      · exact absurd h3'.symm (h.pair k j hgt h2).2.1
    rw [hjk]
theorem com_zero : ∀ a : Fin 7, comB 0 (a.val : Int) = true ∧ comB (a.val : Int) 0 = true := by decide +kernel
theorem com_all {n : Int} {l : List Rq} (h : Ord n l) (j k : Nat) (hjk : j < k) (hk : k < l.length) : comB (l.getD j default).mode (l.getD k default).mode = true := by
  obtain ⟨_, _, _, _, p5⟩ := h.pair j k hjk hk
  have hj := (h.right _ (getD_mem l j (by omega))).2.1
  have hkk := (h.right _ (getD_mem l k hk)).2.1
  by_cases h1 : (l.getD j default).mode = 0
  · rw [h1]
    obtain ⟨i, hi, h7⟩ := known_nat hkk
    rw [hi]
    exact (com_zero ⟨i, h7⟩).1
  · by_cases h2 : (l.getD k default).mode = 0
    · rw [h2]
      obtain ⟨i, hi, h7⟩ := known_nat hj
      rw [hi]
      exact (com_zero ⟨i, h7⟩).2
    · exact p5 h1 h2
end Go.Proofs.Ytmacpjnkmkaloaa
