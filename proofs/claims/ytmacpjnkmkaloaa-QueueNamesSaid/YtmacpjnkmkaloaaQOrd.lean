/-
  A head that is asked, upgraded, left, abandoned and scanned stays in order: a plain law. No condition.
-/
import Derived.Test.YtmacpjnkmkaloaaQGood
namespace Go.Proofs.Ytmacpjnkmkaloaa
open Go.RowKit
/-- A request by itself, and two, the first ahead of the second. -/
def PR (r : Rq) (n : Int) : Prop := 0 ≤ r.id ∧ knownB r.mode = true ∧ knownB r.want = true ∧ 0 ≤ r.since ∧ r.since ≤ n ∧ (0 < r.since → covB r.mode r.want = false) ∧ (¬ 0 < r.since → r.mode ≠ 0 ∧ r.want = r.mode)
def PP (a b : Rq) : Prop := a.id ≠ b.id ∧ a.txn ≠ b.txn ∧ (0 < a.since → a.since ≠ b.since) ∧ (a.mode = 0 → b.mode = 0 ∧ a.since ≤ b.since) ∧ (a.mode ≠ 0 → b.mode ≠ 0 → comB a.mode b.mode = true)
theorem rightB_iff (r : Rq) (n : Int) : rightB r n = true ↔ PR r n := by
  unfold rightB PR
  by_cases h : 0 < r.since <;> simp [h]
theorem pairB_iff (a b : Rq) : pairB a b = false ↔ PP a b := by
  unfold pairB PP
  by_cases h1 : 0 < a.since <;> by_cases h2 : a.mode = 0 <;> by_cases h3 : b.mode = 0 <;> simp [h1, h2, h3, and_assoc]
/-- A head in order. -/
structure Ord (n : Int) (l : List Rq) : Prop where
  lo : 0 ≤ n
  hi : n ≤ 4611686018427387904
  right : ∀ r ∈ l, PR r n
  pair : ∀ k i, k < i → i < l.length → PP (l.getD k default) (l.getD i default)
theorem getD_mem (l : List Rq) (i : Nat) (h : i < l.length) : l.getD i default ∈ l := by
  rw [show l.getD i default = l[i] by simp [List.getD, h]]
  exact List.getElem_mem h
theorem mem_getD {l : List Rq} {r : Rq} (h : r ∈ l) : ∃ i, i < l.length ∧ l.getD i default = r := by
  obtain ⟨i, hi, rfl⟩ := List.getElem_of_mem h
  exact ⟨i, hi, by simp [List.getD, hi]⟩
theorem ord_iff (n : Int) (l : List Rq) : checkB n l = true ↔ Ord n l := by
  constructor
  · intro h
    obtain ⟨h0, h1⟩ := checkB_n n l h
    refine ⟨h0, h1, fun r hr => ?_, fun k i hk hi => ?_⟩
    · obtain ⟨i, hi, rfl⟩ := mem_getD hr
      exact (rightB_iff _ _).1 (okB_right n l i (checkB_ok n l h i hi))
    · exact (pairB_iff _ _).1 (okB_pair n l i (checkB_ok n l h i hi) k (by omega) hk)
  · intro h
    refine checkB_good n l (by have := h.lo; omega) (by have := h.hi; omega) fun i hi => ?_
    unfold okB
    rw [(rightB_iff _ _).2 (h.right _ (getD_mem l i hi))]
    simp only [Bool.true_and, Bool.not_eq_true', List.any_eq_false]
    intro a ha
    obtain ⟨k, hk, rfl⟩ := List.getElem_of_mem ha
    rw [List.length_take] at hk
    rw [List.getElem_take]
    have := h.pair k i (by omega) hi
    rw [show l.getD k default = l[k]'(by omega) by simp [List.getD, show k < l.length by omega]] at this
    rw [(pairB_iff _ _).2 this]
    decide
theorem ord_nil : Ord 0 [] := ⟨by decide, by decide, fun r h => absurd h (by simp), fun k i _ h => absurd h (by simp)⟩
theorem PR.mono {r : Rq} {n n' : Int} (h : PR r n) (hn : n ≤ n') : PR r n' := ⟨h.1, h.2.1, h.2.2.1, h.2.2.2.1, Int.le_trans h.2.2.2.2.1 hn, h.2.2.2.2.2⟩
theorem ord_pairwise {n : Int} {l : List Rq} (h : Ord n l) : l.Pairwise PP := by
  rw [List.pairwise_iff_getElem]
  intro i j hi hj hij
  have := h.pair i j hij hj
  simpa [List.getD, hi, hj] using this
theorem ord_of {n : Int} {l : List Rq} (h0 : 0 ≤ n) (h1 : n ≤ 4611686018427387904) (hr : ∀ r ∈ l, PR r n) (hp : l.Pairwise PP) : Ord n l := by
  refine ⟨h0, h1, hr, fun k i hk hi => ?_⟩
  rw [List.pairwise_iff_getElem] at hp
  have := hp k i (by omega) hi hk
  simpa [List.getD, hi, show k < l.length by omega] using this
theorem ord_sub {n : Int} {l l' : List Rq} (h : Ord n l) (hs : List.Sublist l' l) : Ord n l' :=
  ord_of h.lo h.hi (fun r hr => h.right r (hs.subset hr)) ((ord_pairwise h).sublist hs)
theorem ord_keep {n : Int} {l : List Rq} (p : Rq → Bool) (h : Ord n l) : Ord n (keepQ p l) := ord_sub h List.filter_sublist
theorem ord_snoc {n n' : Int} {l : List Rq} {q : Rq} (h : Ord n l) (hn : n ≤ n') (hn' : n' ≤ 4611686018427387904) (hq : PR q n') (hp : ∀ a ∈ l, PP a q) : Ord n' (l ++ [q]) := by
  refine ord_of (Int.le_trans h.lo hn) hn' (fun r hr => ?_) ?_
  · rcases List.mem_append.1 hr with hr | hr
    · exact (h.right r hr).mono hn
    · rw [List.mem_singleton.1 hr]; exact hq
  · rw [List.pairwise_append]
    refine ⟨ord_pairwise h, List.pairwise_singleton _ _, fun a ha b hb => ?_⟩
    rw [List.mem_singleton.1 hb]
    exact hp a ha
theorem getD_set (l : List Rq) (i j : Nat) (q : Rq) (h : j < l.length) : (l.set i q).getD j default = if i = j then q else l.getD j default := by
  simp only [List.getD, List.getElem?_set]
  by_cases hij : i = j
  · subst hij
    simp [h]
  · simp [hij]
theorem ord_set {n n' : Int} {l : List Rq} {q : Rq} {i : Nat} (h : Ord n l) (hn : n ≤ n') (hn' : n' ≤ 4611686018427387904) (hq : PR q n')
    (ha : ∀ k, k < i → i < l.length → PP (l.getD k default) q) (hb : ∀ k, i < k → k < l.length → PP q (l.getD k default)) : Ord n' (l.set i q) := by
  refine ⟨Int.le_trans h.lo hn, hn', fun r hr => ?_, fun k j hk hj => ?_⟩
  · rcases List.mem_or_eq_of_mem_set hr with h1 | h1
    · exact (h.right r h1).mono hn
    · rw [h1]; exact hq
  · rw [List.length_set] at hj
    rw [getD_set _ _ _ _ hj, getD_set _ _ _ _ (by omega)]
    by_cases h1 : i = k
    · subst h1
      rw [if_pos rfl, if_neg (by omega)]
      exact hb j hk hj
    · rw [if_neg h1]
      by_cases h2 : i = j
      · subst h2
        rw [if_pos rfl]
        exact ha k hk hj
      · rw [if_neg h2]
        exact h.pair k j hk hj
/-- Modes. -/
theorem com_symm (a b : Int) : comB a b = comB b a := by
  have key : ∀ i : Fin 7, ∀ j : Fin 7, comB (i.val : Int) (j.val : Int) = comB (j.val : Int) (i.val : Int) := by decide +kernel
  cases ha : knownB a with
  | false => simp [comB, tabB, ha]
  | true =>
    cases hb : knownB b with
    | false => simp [comB, tabB, hb]
    | true =>
      obtain ⟨i, rfl, hi⟩ := known_nat ha
      obtain ⟨j, rfl, hj⟩ := known_nat hb
      exact key ⟨i, hi⟩ ⟨j, hj⟩
theorem cov_none (m : Int) (h : knownB m = true) (h0 : m ≠ 0) : covB 0 m = false := by
  obtain ⟨i, rfl, hi⟩ := known_nat h
  have key : ∀ i : Fin 7, i.val ≠ 0 → covB 0 (i.val : Int) = false := by decide +kernel
  exact key ⟨i, hi⟩ (by simpa using h0)
theorem sup_facts (a b : Int) (ha : knownB a = true) (hb : knownB b = true) : knownB (supV a b) = true ∧ (b ≠ 0 → supV a b ≠ 0) ∧ (supV a b ≠ a → covB a (supV a b) = false) := by
  obtain ⟨i, rfl, hi⟩ := known_nat ha
  obtain ⟨j, rfl, hj⟩ := known_nat hb
  have key : ∀ i : Fin 7, ∀ j : Fin 7, knownB (supV (i.val : Int) (j.val : Int)) = true ∧ ((j.val : Int) ≠ 0 → supV (i.val : Int) (j.val : Int) ≠ 0) ∧ (supV (i.val : Int) (j.val : Int) ≠ (i.val : Int) → covB (i.val : Int) (supV (i.val : Int) (j.val : Int)) = false) := by decide +kernel
  exact key ⟨i, hi⟩ ⟨j, hj⟩
theorem PR.wait {r : Rq} {n : Int} (h : PR r n) (h0 : openB r = true) : 0 < r.since ∧ r.want ≠ 0 := by
  obtain ⟨_, hm, _, _, _, h1, h2⟩ := h
  have hs : 0 < r.since := by
    rcases Int.lt_or_le 0 r.since with h | h
    · exact h
    · have := (h2 (by omega)).1
      simp only [openB, Bool.or_eq_true, beq_iff_eq, decide_eq_true_eq] at h0
      omega
  refine ⟨hs, fun hw => ?_⟩
  have := h1 hs
  rw [hw, covB_zero _ hm] at this
  cases this
/-- Who is first. -/
theorem bestK_none (l : List Rq) : ∀ k, bestK l k < 0 → ∀ j, j < k → upB (l.getD j default) = false
  | 0, _, j, h => by omega
  | k+1, h, j, hj => by
    unfold bestK at h
    split at h
    · omega
    · rename_i hc
      by_cases hjk : j = k
      · subst hjk
        cases hu : upB (l.getD j default) with
        | false => rfl
        | true => rw [hu, decide_eq_true h] at hc; exact absurd rfl hc
      · exact bestK_none l k h j (by omega)
theorem bestK_min (l : List Rq) : ∀ k j, j < k → upB (l.getD j default) = true → 0 ≤ bestK l k ∧ (l.getD (bestK l k).toNat default).since ≤ (l.getD j default).since
  | 0, j, h, _ => by omega
  | k+1, j, hj, hu => by
    unfold bestK
    split
    · rename_i hc
      simp only [Bool.and_eq_true, Bool.or_eq_true, decide_eq_true_eq] at hc
      refine ⟨by omega, ?_⟩
      rw [Int.toNat_natCast]
      by_cases hjk : j = k
      · subst hjk; exact Int.le_refl _
      · have := bestK_min l k j (by omega) hu
        have := hc.2
        omega
    · rename_i hc
      by_cases hjk : j = k
      · subst hjk
        simp only [hu, Bool.true_and, Bool.or_eq_true, decide_eq_true_eq] at hc
        omega
      · exact bestK_min l k j (by omega) hu
theorem first_neg (l : List Rq) (h : firstI l < 0) : ∀ r ∈ l, r.mode ≠ 0 ∧ upB r = false := by
  intro r hr
  obtain ⟨i, hi, rfl⟩ := mem_getD hr
  unfold firstI at h
  split at h
  · rename_i hb
    refine ⟨fun hm => ?_, bestK_none l _ hb i hi⟩
    have := idxF_any (fun r : Rq => r.mode == 0) l 0
    rw [decide_eq_false (by omega)] at this
    have h2 := List.any_eq_false.1 this.symm _ (getD_mem l i hi)
    exact h2 (by simpa using hm)
  · omega
theorem idxF_first (p : Rq → Bool) : ∀ (l : List Rq) (k : Nat) (i : Nat), idxF p l k = ((k + i : Nat) : Int) → ∀ j, j < i → p (l.getD j default) = false
  | [], k, i, h, j, hj => by simp [idxF] at h; omega
  | x :: l, k, i, h, j, hj => by
    unfold idxF at h
    split at h
    · omega
    · rename_i hp
      cases j with
      | zero => simpa [List.getD] using hp
      | succ j =>
        have := idxF_first p l (k + 1) (i - 1) (by rw [h]; congr 1; omega) j (by omega)
        simpa [List.getD] using this
theorem first_pos (l : List Rq) (i : Nat) (h : firstI l = i) : i < l.length ∧ openB (l.getD i default) = true ∧
    ((upB (l.getD i default) = true ∧ ∀ r ∈ l, upB r = true → (l.getD i default).since ≤ r.since) ∨ ((l.getD i default).mode = 0 ∧ (∀ r ∈ l, upB r = false) ∧ ∀ j, j < i → (l.getD j default).mode ≠ 0)) := by
  obtain ⟨j, h1, h2, h3⟩ := firstI_spec l (by omega)
  obtain rfl : i = j := by omega
  refine ⟨h2, h3, ?_⟩
  unfold firstI at h
  split at h
  · rename_i hb
    right
    rcases idxF_bd (fun r : Rq => r.mode == 0) l 0 with h' | ⟨j, h1, _, h4⟩
    · omega
    · rw [Nat.zero_add] at h1
      obtain rfl : i = j := by omega
      refine ⟨by simpa using h4, fun r hr => ?_, fun j hj => ?_⟩
      · obtain ⟨k, hk, rfl⟩ := mem_getD hr
        exact bestK_none l _ hb k hk
      · have := idxF_first (fun r : Rq => r.mode == 0) l 0 i (by rw [h1]; simp) j hj
        simpa using this
  · rename_i hb
    left
    have hu := bestK_up l l.length (Nat.le_refl _) (by omega)
    rw [h, Int.toNat_natCast] at hu
    refine ⟨hu, fun r hr hr2 => ?_⟩
    obtain ⟨k, hk, rfl⟩ := mem_getD hr
    have := (bestK_min l l.length k hk hr2).2
    rw [h, Int.toNat_natCast] at this
    exact this
/-- What grants keep. -/
theorem fits_com {l : List Rq} {q : Rq} (h : l.any (fitsP q) = false) : ∀ a ∈ l, a.id ≠ q.id → a.mode ≠ 0 → comB a.mode q.want = true := by
  intro a ha h1 h2
  have := List.any_eq_false.1 h a ha
  cases hc : comB a.mode q.want with
  | true => rfl
  | false =>
    refine absurd ?_ this
    simp only [fitsP, bne_iff_ne, ne_eq, h1, h2, hc, not_false_eq_true, Bool.and_self, Bool.not_false, Bool.and_true]
    simp [h1, h2]
theorem ord_grant {n : Int} {l : List Rq} {i : Nat} (h : Ord n l) (hi : firstI l = i) (hf : l.any (fitsP (l.getD i default)) = false) : Ord n (grant l i) := by
  obtain ⟨hil, hop, hw⟩ := first_pos l i hi
  have hr := h.right _ (getD_mem l i hil)
  obtain ⟨hs, hwz⟩ := hr.wait hop
  have hc := fits_com hf
  unfold grant
  refine ord_set h (Int.le_refl _) h.hi ⟨hr.1, hr.2.2.1, hr.2.2.1, Int.le_refl _, h.lo, fun h => absurd h (by simp), fun _ => ⟨hwz, rfl⟩⟩ (fun k hk _ => ?_) (fun k hk hkl => ?_)
  · obtain ⟨p1, p2, p3, p4, p5⟩ := h.pair k i hk hil
    have hm : (l.getD k default).mode ≠ 0 := by
      intro hm
      rcases hw with ⟨hu, _⟩ | ⟨_, _, hj⟩
      · simp only [upB, Bool.and_eq_true, bne_iff_ne] at hu
        exact hu.1 (p4 hm).1
      · exact hj k hk hm
    exact ⟨p1, p2, fun h => by show _ ≠ (0 : Int); omega, fun h => absurd h hm, fun _ _ => hc _ (getD_mem l k (by omega)) p1 hm⟩
  · obtain ⟨p1, p2, p3, p4, p5⟩ := h.pair i k hk hkl
    exact ⟨p1, p2, fun h => absurd h (by simp), fun h => absurd h hwz, fun _ hm => by rw [com_symm]; exact hc _ (getD_mem l k hkl) (fun h => p1 h.symm) hm⟩
theorem ord_scan {n : Int} : ∀ (g : Nat) (l : List Rq) (ids : List Int), Ord n l → Ord n (scanN g l ids).1
  | 0, l, ids, h => h
  | g+1, l, ids, h => by
    unfold scanN
    split
    · exact h
    · rename_i h0
      split
      · exact h
      · rename_i hf
        obtain ⟨i, hi, _⟩ := firstI_spec l (by omega)
        rw [hi, Int.toNat_natCast] at hf ⊢
        exact ord_scan g _ _ (ord_grant h hi (by simpa using hf))
theorem scan_len : ∀ (g : Nat) (l : List Rq) (ids : List Int), (scanN g l ids).1.length = l.length
  | 0, l, ids => rfl
  | g+1, l, ids => by
    unfold scanN
    split
    · rfl
    · split
      · rfl
      · rw [scan_len g, grant_len]
/-- The calls. -/
def askV (l : List Rq) (n id txn m : Int) : Option (List Rq × Int) :=
  if id < 0 ∨ askedB m = false then none
  else if l.any (fun q => q.id == id || q.txn == txn) then none
  else if firstI l < 0 ∧ l.any (fitsP ⟨id, txn, 0, m, 0⟩) = false then some (l ++ [⟨id, txn, m, m, 0⟩], n)
  else some (l ++ [⟨id, txn, 0, m, n + 1⟩], n + 1)
/-- The place of a request. -/
def plc (l : List Rq) (id : Int) : Int := idxF (fun q => q.id == id) l 0
def upQ (q : Rq) (m : Int) : Rq := { q with want := supV q.mode m }
def upV (l : List Rq) (n id m : Int) : Option (List Rq × Int) :=
  if askedB m = false then none
  else if plc l id < 0 then none
  else if 0 < (l.getD (plc l id).toNat default).since then none
  else if supV (l.getD (plc l id).toNat default).mode m = (l.getD (plc l id).toNat default).mode then some (l.set (plc l id).toNat (upQ (l.getD (plc l id).toNat default) m), n)
  else if (l.any (fitsP (upQ (l.getD (plc l id).toNat default) m)) = false ∧ l.any upB = false) then some (l.set (plc l id).toNat { upQ (l.getD (plc l id).toNat default) m with mode := supV (l.getD (plc l id).toNat default).mode m }, n)
  else some (l.set (plc l id).toNat { upQ (l.getD (plc l id).toNat default) m with since := n + 1 }, n + 1)
def lvV (l : List Rq) (n id : Int) : Option (List Rq × Int) :=
  if plc l id < 0 then none else some (keepQ (fun q => q.id == id) l, n)
def abV (l : List Rq) (n id : Int) : Option (List Rq × Int) :=
  if plc l id < 0 then none
  else if ¬ 0 < (l.getD (plc l id).toNat default).since then none
  else if (l.getD (plc l id).toNat default).mode = 0 then some (keepQ (fun q => q.id == id) l, n)
  else some (calm l (plc l id).toNat, n)
theorem plc_spec (l : List Rq) (id : Int) (h : ¬ plc l id < 0) : ∃ i : Nat, plc l id = i ∧ i < l.length ∧ (l.getD i default).id = id := by
  rcases idxF_bd (fun q : Rq => q.id == id) l 0 with h' | ⟨j, h1, h2, h3⟩
  · unfold plc at h; omega
  · exact ⟨j, by unfold plc; rw [h1]; simp, h2, by simpa using h3⟩
theorem ord_ask {n id txn m : Int} {l : List Rq} (h : Ord n l) (hn : n < 4611686018427387904) {r : List Rq × Int} (hr : askV l n id txn m = some r) : Ord r.2 r.1 ∧ n ≤ r.2 ∧ r.2 ≤ n + 1 ∧ r.1.length ≤ l.length + 1 := by
  unfold askV at hr
  split at hr
  · cases hr
  rename_i h1
  split at hr
  · cases hr
  rename_i h2
  have hi : 0 ≤ id := by
    rcases Int.lt_or_le id 0 with h | h
    · exact absurd (.inl h) h1
    · exact h
  have hm : m ≠ 0 ∧ knownB m = true := by
    cases ha : askedB m with
    | false => exact absurd (.inr ha) h1
    | true => simpa [askedB] using ha
  have hd : ∀ a ∈ l, a.id ≠ id ∧ a.txn ≠ txn := by
    intro a ha
    have := List.any_eq_false.1 ((Bool.not_eq_true _).mp h2) a ha
    simpa using this
  have h0 : knownB 0 = true := by decide
  split at hr
  · rename_i h3
    cases hr
    refine ⟨ord_snoc h (Int.le_refl _) h.hi ⟨hi, hm.2, hm.2, Int.le_refl _, h.lo, fun h => absurd h (by simp), fun _ => ⟨hm.1, rfl⟩⟩ (fun a ha => ?_), Int.le_refl _, by show n ≤ n + 1; omega, by simp⟩
    obtain ⟨f1, f2⟩ := first_neg l h3.1 a ha
    exact ⟨(hd a ha).1, (hd a ha).2, fun h => by show _ ≠ (0 : Int); omega, fun h => absurd h f1, fun _ _ => fits_com h3.2 a ha (hd a ha).1 f1⟩
  · cases hr
    refine ⟨ord_snoc h (by show n ≤ n + 1; omega) (by show n + 1 ≤ _; omega) ⟨hi, h0, hm.2, by show 0 ≤ n + 1; have := h.lo; omega, Int.le_refl _, fun _ => cov_none m hm.2 hm.1, fun h' => absurd (show 0 < n + 1 by have := h.lo; omega) h'⟩ (fun a ha => ?_), by show n ≤ n + 1; omega, Int.le_refl _, by simp⟩
    obtain ⟨_, _, _, _, r5, _⟩ := h.right a ha
    exact ⟨(hd a ha).1, (hd a ha).2, fun h => by show _ ≠ n + 1; omega, fun _ => ⟨rfl, by show _ ≤ n + 1; omega⟩, fun _ h => absurd rfl h⟩
theorem ord_up {n id m : Int} {l : List Rq} (h : Ord n l) (hn : n < 4611686018427387904) {r : List Rq × Int} (hr : upV l n id m = some r) : Ord r.2 r.1 ∧ n ≤ r.2 ∧ r.2 ≤ n + 1 ∧ r.1.length ≤ l.length + 1 := by
  unfold upV at hr
  split at hr
  · cases hr
  rename_i h1
  split at hr
  · cases hr
  rename_i h2
  obtain ⟨i, hp, hil, hid⟩ := plc_spec l id h2
  rw [hp, Int.toNat_natCast] at hr
  have hR := h.right _ (getD_mem l i hil)
  have hab := fun k hk => h.pair k i hk hil
  have hba := fun k hk hkl => h.pair i k hk hkl
  generalize hq : l.getD i default = q at *
  obtain ⟨r1, r2, r3, r4, r5, r6, r7⟩ := hR
  split at hr
  · cases hr
  rename_i h3
  obtain ⟨hm0, hwm⟩ := r7 h3
  have hs0 : q.since = 0 := by omega
  have hm : m ≠ 0 ∧ knownB m = true := by
    cases ha : askedB m with
    | false => exact absurd ha h1
    | true => simpa [askedB] using ha
  obtain ⟨s1, s2, s3⟩ := sup_facts q.mode m r2 hm.2
  split at hr
  · rename_i h4
    cases hr
    have e : ∀ p : Rq, p.want = p.mode → ({ p with want := p.mode } : Rq) = p := fun p hp => by cases p; simp only at hp ⊢; rw [hp]
    replace e : upQ q m = q := by unfold upQ; rw [h4]; exact e q hwm
    rw [e]
    refine ⟨ord_set h (Int.le_refl _) h.hi ⟨r1, r2, r3, r4, r5, r6, r7⟩ (fun k hk _ => hab k hk) (fun k hk hkl => hba k hk hkl), Int.le_refl _, by show n ≤ n + 1; omega, by simp⟩
  rename_i h4
  split at hr
  · rename_i h5
    cases hr
    have hc := fits_com h5.1
    refine ⟨ord_set h (Int.le_refl _) h.hi ⟨r1, s1, s1, r4, r5, fun h => absurd h h3, fun _ => ⟨s2 hm.1, rfl⟩⟩ (fun k hk hkl => ?_) (fun k hk hkl => ?_), Int.le_refl _, by show n ≤ n + 1; omega, by simp⟩
    · obtain ⟨p1, p2, p3, p4, p5⟩ := hab k hk
      exact ⟨p1, p2, p3, fun hz => absurd (p4 hz).1 hm0, fun hz _ => hc _ (getD_mem l k (by omega)) p1 hz⟩
    · obtain ⟨p1, p2, p3, p4, p5⟩ := hba k hk hkl
      exact ⟨p1, p2, p3, fun hz => absurd hz (s2 hm.1), fun _ hz => by rw [com_symm]; exact hc _ (getD_mem l k hkl) (fun h => p1 h.symm) hz⟩
  · cases hr
    refine ⟨ord_set h (by show n ≤ n + 1; omega) (by show n + 1 ≤ _; omega) ⟨r1, r2, s1, by show 0 ≤ n + 1; have := h.lo; omega, Int.le_refl _, fun _ => s3 h4, fun h' => absurd (show 0 < n + 1 by have := h.lo; omega) h'⟩ (fun k hk hkl => ?_) (fun k hk hkl => ?_), by show n ≤ n + 1; omega, Int.le_refl _, by simp⟩
    · obtain ⟨p1, p2, p3, p4, p5⟩ := hab k hk
      obtain ⟨_, _, _, _, t5, _⟩ := h.right _ (getD_mem l k (by omega))
      exact ⟨p1, p2, fun h => by show _ ≠ n + 1; omega, fun hz => absurd (p4 hz).1 hm0, p5⟩
    · obtain ⟨p1, p2, p3, p4, p5⟩ := hba k hk hkl
      obtain ⟨_, _, _, _, t5, _⟩ := h.right _ (getD_mem l k hkl)
      exact ⟨p1, p2, fun h => by show n + 1 ≠ _; omega, fun hz => absurd hz hm0, p5⟩
theorem ord_lv {n id : Int} {l : List Rq} (h : Ord n l) {r : List Rq × Int} (hr : lvV l n id = some r) : Ord r.2 r.1 ∧ n ≤ r.2 ∧ r.2 ≤ n + 1 ∧ r.1.length ≤ l.length + 1 := by
  unfold lvV at hr
  split at hr
  · cases hr
  · cases hr
    exact ⟨ord_keep _ h, Int.le_refl _, by show n ≤ n + 1; omega, Nat.le_succ_of_le (List.length_filter_le _ _)⟩
theorem ord_ab {n id : Int} {l : List Rq} (h : Ord n l) {r : List Rq × Int} (hr : abV l n id = some r) : Ord r.2 r.1 ∧ n ≤ r.2 ∧ r.2 ≤ n + 1 ∧ r.1.length ≤ l.length + 1 := by
  unfold abV at hr
  split at hr
  · cases hr
  rename_i h2
  obtain ⟨i, hp, hil, hid⟩ := plc_spec l id h2
  rw [hp, Int.toNat_natCast] at hr
  split at hr
  · cases hr
  rename_i h3
  split at hr
  · cases hr
    exact ⟨ord_keep _ h, Int.le_refl _, by show n ≤ n + 1; omega, Nat.le_succ_of_le (List.length_filter_le _ _)⟩
  · rename_i h4
    cases hr
    unfold calm
    have hR := h.right _ (getD_mem l i hil)
    refine ⟨ord_set h (Int.le_refl _) h.hi ⟨hR.1, hR.2.1, hR.2.1, Int.le_refl _, h.lo, fun h => absurd h (by simp), fun _ => ⟨h4, rfl⟩⟩ (fun k hk hkl => ?_) (fun k hk hkl => ?_), Int.le_refl _, by show n ≤ n + 1; omega, by simp⟩
    · obtain ⟨p1, p2, p3, p4, p5⟩ := h.pair k i hk hil
      exact ⟨p1, p2, fun h => by show _ ≠ (0 : Int); omega, fun hz => absurd (p4 hz).1 h4, p5⟩
    · obtain ⟨p1, p2, p3, p4, p5⟩ := h.pair i k hk hkl
      exact ⟨p1, p2, fun h => absurd h (by simp), fun hz => absurd hz h4, p5⟩
/-- A call, and a scan. -/
structure Ac where
  kind : Int
  id : Int
  txn : Int
  mode : Int
  deriving Inhabited
def callV (s : List Rq × Int) (a : Ac) : Option (List Rq × Int) :=
  if a.kind = 0 then askV s.1 s.2 a.id a.txn a.mode
  else if a.kind = 1 then upV s.1 s.2 a.id a.mode
  else if a.kind = 2 then lvV s.1 s.2 a.id
  else abV s.1 s.2 a.id
def doV (s : List Rq × Int) (a : Ac) : List Rq × Int :=
  match callV s a with
  | none => s
  | some r => ((scanN (opens r.1) r.1 []).1, r.2)
theorem ord_do {l : List Rq} {n : Int} (a : Ac) (h : Ord n l) (hn : n < 4611686018427387904) : Ord (doV (l, n) a).2 (doV (l, n) a).1 ∧ (doV (l, n) a).2 ≤ n + 1 ∧ (doV (l, n) a).1.length ≤ l.length + 1 := by
  unfold doV
  cases hc : callV (l, n) a with
  | none => exact ⟨h, by show n ≤ n + 1; omega, Nat.le_succ _⟩
  | some r =>
    have : Ord r.2 r.1 ∧ n ≤ r.2 ∧ r.2 ≤ n + 1 ∧ r.1.length ≤ l.length + 1 := by
      unfold callV at hc
      split at hc
      · exact ord_ask h hn hc
      · split at hc
        · exact ord_up h hn hc
        · split at hc
          · exact ord_lv h hc
          · exact ord_ab h hc
    exact ⟨ord_scan _ _ _ this.1, this.2.2.1, by show (scanN _ _ _).1.length ≤ _; rw [scan_len]; exact this.2.2.2⟩
end Go.Proofs.Ytmacpjnkmkaloaa
