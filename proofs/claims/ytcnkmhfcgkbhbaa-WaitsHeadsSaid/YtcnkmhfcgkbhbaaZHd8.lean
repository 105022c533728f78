/-
  Contracts and plain laws that the walk leans on, part 8. No condition.
-/
import Derived.Test.YtcnkmhfcgkbhbaaZHd7
import Derived.Deep.RegionHeld
namespace Go.Proofs.Ytcnkmhfcgkbhbaa
open Go.RowKit
theorem checkB_n (n : Int) (l : List Rq) (h : checkB n l = true) : 0 ≤ n ∧ n ≤ 4611686018427387904 := by
  unfold checkB at h
  simp only [Bool.and_eq_true, decide_eq_true_eq] at h
  exact ⟨h.1, h.2.1⟩
theorem checkB_ok (n : Int) (l : List Rq) (h : checkB n l = true) (i : Nat) (hi : i < l.length) : okQB n l i = true := by
  unfold checkB at h
  simp only [Bool.and_eq_true, decide_eq_true_eq] at h
  exact List.all_eq_true.1 h.2.2 i (List.mem_range.2 hi)
theorem okB_right (n : Int) (l : List Rq) (i : Nat) (h : okQB n l i = true) : rightB (l.getD i default) n = true := by
  unfold okQB at h
  simp only [Bool.and_eq_true] at h
  exact h.1
theorem okB_pair (n : Int) (l : List Rq) (i : Nat) (h : okQB n l i = true) (k : Nat) (hk : k < l.length) (hki : k < i) : pairB (l.getD k default) (l.getD i default) = false := by
  unfold okQB at h
  simp only [Bool.and_eq_true, Bool.not_eq_true'] at h
  cases hp : pairB (l.getD k default) (l.getD i default) with
  | false => rfl
  | true =>
    have := any_take_true (fun a => pairB a (l.getD i default)) l k i hk hki hp
    rw [this] at h
    exact absurd h.2 (by simp)
theorem pairB_id (a b : Rq) (h : pairB a b = false) : a.id ≠ b.id ∧ a.txn ≠ b.txn := by
  unfold pairB at h
  simp only [Bool.or_eq_false_iff, beq_eq_false_iff_ne] at h
  exact ⟨h.1.1.1.1, h.1.1.1.2⟩
theorem checkB_ids (n : Int) (l : List Rq) (h : checkB n l = true) : IdsD l := by
  intro i j hi hj he
  rcases Nat.lt_trichotomy i j with hlt | heq | hgt
  · exact absurd he (pairB_id _ _ (okB_pair n l j (checkB_ok n l h j hj) i hi hlt)).1
  · exact heq
  · exact absurd he.symm (pairB_id _ _ (okB_pair n l i (checkB_ok n l h i hi) j hj hgt)).1
theorem covB_zero (a : Int) (h : knownB a = true) : covB a 0 = true := by
  unfold knownB at h
  rw [decide_eq_true_eq] at h
  obtain ⟨h1, h2⟩ := h
  have : a = 0 ∨ a = 1 ∨ a = 2 ∨ a = 3 ∨ a = 4 ∨ a = 5 ∨ a = 6 := by omega
  rcases this with rfl | rfl | rfl | rfl | rfl | rfl | rfl <;> rfl
theorem rightB_want (r : Rq) (n : Int) (h : rightB r n = true) : r.want ≠ 0 := by
  unfold rightB at h
  simp only [Bool.and_eq_true] at h
  obtain ⟨_, hm, _, _, _, h⟩ := h
  intro hw
  split at h
  · rw [hw, covB_zero _ hm] at h
    exact absurd h (by decide)
  · simp only [Bool.and_eq_true, bne_iff_ne, ne_eq, beq_iff_eq] at h
    exact h.1 (by rw [← h.2, hw])
theorem checkB_wants (n : Int) (l : List Rq) (h : checkB n l = true) : Wants l := by
  intro r hr _
  obtain ⟨i, hi, rfl⟩ := List.getElem_of_mem hr
  have := rightB_want _ n (okB_right n l i (checkB_ok n l h i hi))
  simpa [List.getD, hi] using this
end Go.Proofs.Ytcnkmhfcgkbhbaa
namespace Go.Proofs.Ytcnkmhfcgkbhbaa
open Go.RowKit
theorem SrcA.cells (w : World) (cs : Array Value) (t : TypeId) (c : Nat) : SrcA (w.alloc (.cells cs t)) cs.size (.slice (some ⟨w.heap.size, 0, none⟩) 1 c) 1 cs.toList := by
  refine .inr ⟨_, _, rfl, by simp, fun j u hu => ?_⟩
  have h := ((Sep.start w).alloc cs t).gblk.cell j
  rw [Addr.add_lit, Nat.zero_add]
  rw [h, ← hu]
  simp
end Go.Proofs.Ytcnkmhfcgkbhbaa
namespace Go.Proofs.Ytcnkmhfcgkbhbaa
open Go.RowKit
end Go.Proofs.Ytcnkmhfcgkbhbaa
namespace Go.Proofs.Ytcnkmhfcgkbhbaa
open Go.RowKit
/-- A request by itself, and two, the first ahead of the second. -/
def PR (r : Rq) (n : Int) : Prop := 0 ≤ r.id ∧ knownB r.mode = true ∧ knownB r.want = true ∧ 0 ≤ r.since ∧ r.since ≤ n ∧ (0 < r.since → covB r.mode r.want = false) ∧ (¬ 0 < r.since → r.mode ≠ 0 ∧ r.want = r.mode)
def PP (a b : Rq) : Prop := a.id ≠ b.id ∧ a.txn ≠ b.txn ∧ (0 < a.since → a.since ≠ b.since) ∧ (a.mode = 0 → b.mode = 0 ∧ a.since ≤ b.since) ∧ (a.mode ≠ 0 → b.mode ≠ 0 → comB a.mode b.mode = true)
theorem rightB_iff (r : Rq) (n : Int) : rightB r n = true ↔ PR r n := by
  unfold rightB PR
  by_cases h : 0 < r.since <;> simp [h]
theorem pairB_iff (a b : Rq) : pairB a b = false ↔ PP a b := by
  unfold pairB PP
  by_cases h1 : 0 < a.since <;> by_cases h2 : a.mode = 0 <;> by_cases h3 : b.mode = 0 <;> simp [h1, h2, h3, and_assoc]
/-- A head in order. -/
structure Ord (n : Int) (l : List Rq) : Prop where
  lo : 0 ≤ n
  hi : n ≤ 4611686018427387904
  right : ∀ r ∈ l, PR r n
  pair : ∀ k i, k < i → i < l.length → PP (l.getD k default) (l.getD i default)
theorem getD_mem (l : List Rq) (i : Nat) (h : i < l.length) : l.getD i default ∈ l := by
  rw [show l.getD i default = l[i] by simp [List.getD, h]]
  exact List.getElem_mem h
theorem mem_getD {l : List Rq} {r : Rq} (h : r ∈ l) : ∃ i, i < l.length ∧ l.getD i default = r := by
  obtain ⟨i, hi, rfl⟩ := List.getElem_of_mem h
  exact ⟨i, hi, by simp [List.getD, hi]⟩
theorem ord_iff (n : Int) (l : List Rq) : checkB n l = true ↔ Ord n l := by
  constructor
  · intro h
    obtain ⟨h0, h1⟩ := checkB_n n l h
    refine ⟨h0, h1, fun r hr => ?_, fun k i hk hi => ?_⟩
    · obtain ⟨i, hi, rfl⟩ := mem_getD hr
      exact (rightB_iff _ _).1 (okB_right n l i (checkB_ok n l h i hi))
    · exact (pairB_iff _ _).1 (okB_pair n l i (checkB_ok n l h i hi) k (by omega) hk)
  · intro h
    refine checkB_good n l (by have := h.lo; omega) (by have := h.hi; omega) fun i hi => ?_
    unfold okQB
    rw [(rightB_iff _ _).2 (h.right _ (getD_mem l i hi))]
    simp only [Bool.true_and, Bool.not_eq_true', List.any_eq_false]
    intro a ha
    obtain ⟨k, hk, rfl⟩ := List.getElem_of_mem ha
    rw [List.length_take] at hk
    rw [List.getElem_take]
    have := h.pair k i (by omega) hi
    rw [show l.getD k default = l[k]'(by omega) by simp [List.getD, show k < l.length by omega]] at this
    rw [(pairB_iff _ _).2 this]
    decide
theorem PR.mono {r : Rq} {n n' : Int} (h : PR r n) (hn : n ≤ n') : PR r n' := ⟨h.1, h.2.1, h.2.2.1, h.2.2.2.1, Int.le_trans h.2.2.2.2.1 hn, h.2.2.2.2.2⟩
theorem getD_set (l : List Rq) (i j : Nat) (q : Rq) (h : j < l.length) : (l.set i q).getD j default = if i = j then q else l.getD j default := by
  simp only [List.getD, List.getElem?_set]
  by_cases hij : i = j
  · subst hij
    simp [h]
  · simp [hij]
theorem ord_set {n n' : Int} {l : List Rq} {q : Rq} {i : Nat} (h : Ord n l) (hn : n ≤ n') (hn' : n' ≤ 4611686018427387904) (hq : PR q n')
    (ha : ∀ k, k < i → i < l.length → PP (l.getD k default) q) (hb : ∀ k, i < k → k < l.length → PP q (l.getD k default)) : Ord n' (l.set i q) := by
  refine ⟨Int.le_trans h.lo hn, hn', fun r hr => ?_, fun k j hk hj => ?_⟩
  · rcases List.mem_or_eq_of_mem_set hr with h1 | h1
    · exact (h.right r h1).mono hn
    · rw [h1]; exact hq
  · rw [List.length_set] at hj
    rw [getD_set _ _ _ _ hj, getD_set _ _ _ _ (by omega)]
    by_cases h1 : i = k
    · subst h1
      rw [if_pos rfl, if_neg (by omega)]
      exact hb j hk hj
    · rw [if_neg h1]
      by_cases h2 : i = j
      · subst h2
        rw [if_pos rfl]
        exact ha k hk hj
      · rw [if_neg h2]
        exact h.pair k j hk hj
/-- Modes. -/
theorem com_symm (a b : Int) : comB a b = comB b a := by
  have key : ∀ i : Fin 7, ∀ j : Fin 7, comB (i.val : Int) (j.val : Int) = comB (j.val : Int) (i.val : Int) := by decide +kernel
  cases ha : knownB a with
  | false => simp [comB, tabB, ha]
  | true =>
    cases hb : knownB b with
    | false => simp [comB, tabB, hb]
    | true =>
      obtain ⟨i, rfl, hi⟩ := known_nat ha
      obtain ⟨j, rfl, hj⟩ := known_nat hb
      exact key ⟨i, hi⟩ ⟨j, hj⟩
theorem PR.wait {r : Rq} {n : Int} (h : PR r n) (h0 : openB r = true) : 0 < r.since ∧ r.want ≠ 0 := by
  obtain ⟨_, hm, _, _, _, h1, h2⟩ := h
  have hs : 0 < r.since := by
    rcases Int.lt_or_le 0 r.since with h | h
    · exact h
    · have := (h2 (by omega)).1
      simp only [openB, Bool.or_eq_true, beq_iff_eq, decide_eq_true_eq] at h0
      omega
  refine ⟨hs, fun hw => ?_⟩
  have := h1 hs
  rw [hw, covB_zero _ hm] at this
  cases this
/-- Who is first. -/
theorem bestK_none (l : List Rq) : ∀ k, bestK l k < 0 → ∀ j, j < k → upB (l.getD j default) = false
  | 0, _, j, h => by omega
  | k+1, h, j, hj => by
    unfold bestK at h
    split at h
    · omega
    · rename_i hc
      by_cases hjk : j = k
      · subst hjk
        cases hu : upB (l.getD j default) with
        | false => rfl
        | true => rw [hu, decide_eq_true h] at hc; exact absurd rfl hc
      · exact bestK_none l k h j (by omega)
theorem bestK_min (l : List Rq) : ∀ k j, j < k → upB (l.getD j default) = true → 0 ≤ bestK l k ∧ (l.getD (bestK l k).toNat default).since ≤ (l.getD j default).since
  | 0, j, h, _ => by omega
  | k+1, j, hj, hu => by
    unfold bestK
    split
    · rename_i hc
      simp only [Bool.and_eq_true, Bool.or_eq_true, decide_eq_true_eq] at hc
      refine ⟨by omega, ?_⟩
      rw [Int.toNat_natCast]
      by_cases hjk : j = k
      · subst hjk; exact Int.le_refl _
      · have := bestK_min l k j (by omega) hu
        have := hc.2
        omega
    · rename_i hc
      by_cases hjk : j = k
      · subst hjk
        simp only [hu, Bool.true_and, Bool.or_eq_true, decide_eq_true_eq] at hc
        omega
      · exact bestK_min l k j (by omega) hu
theorem first_neg (l : List Rq) (h : firstI l < 0) : ∀ r ∈ l, r.mode ≠ 0 ∧ upB r = false := by
  intro r hr
  obtain ⟨i, hi, rfl⟩ := mem_getD hr
  unfold firstI at h
  split at h
  · rename_i hb
    refine ⟨fun hm => ?_, bestK_none l _ hb i hi⟩
    have := idxF_any (fun r : Rq => r.mode == 0) l 0
    rw [decide_eq_false (by omega)] at this
    have h2 := List.any_eq_false.1 this.symm _ (getD_mem l i hi)
    exact h2 (by simpa using hm)
  · omega
theorem idxF_first (p : Rq → Bool) : ∀ (l : List Rq) (k : Nat) (i : Nat), idxF p l k = ((k + i : Nat) : Int) → ∀ j, j < i → p (l.getD j default) = false
  | [], k, i, h, j, hj => by simp [idxF] at h; omega
  | x :: l, k, i, h, j, hj => by
    unfold idxF at h
    split at h
    · omega
    · rename_i hp
      cases j with
      | zero => simpa [List.getD] using hp
      | succ j =>
        have := idxF_first p l (k + 1) (i - 1) (by rw [h]; congr 1; omega) j (by omega)
        simpa [List.getD] using this
theorem first_pos (l : List Rq) (i : Nat) (h : firstI l = i) : i < l.length ∧ openB (l.getD i default) = true ∧
    ((upB (l.getD i default) = true ∧ ∀ r ∈ l, upB r = true → (l.getD i default).since ≤ r.since) ∨ ((l.getD i default).mode = 0 ∧ (∀ r ∈ l, upB r = false) ∧ ∀ j, j < i → (l.getD j default).mode ≠ 0)) := by
  obtain ⟨j, h1, h2, h3⟩ := firstI_spec l (by omega)
  obtain rfl : i = j := by omega
  refine ⟨h2, h3, ?_⟩
  unfold firstI at h
  split at h
  · rename_i hb
    right
    rcases idxF_bd (fun r : Rq => r.mode == 0) l 0 with h' | ⟨j, h1, _, h4⟩
    · omega
    · rw [Nat.zero_add] at h1
      obtain rfl : i = j := by omega
      refine ⟨by simpa using h4, fun r hr => ?_, fun j hj => ?_⟩
      · obtain ⟨k, hk, rfl⟩ := mem_getD hr
        exact bestK_none l _ hb k hk
      · have := idxF_first (fun r : Rq => r.mode == 0) l 0 i (by rw [h1]; simp) j hj
        simpa using this
  · rename_i hb
    left
    have hu := bestK_up l l.length (Nat.le_refl _) (by omega)
    rw [h, Int.toNat_natCast] at hu
    refine ⟨hu, fun r hr hr2 => ?_⟩
    obtain ⟨k, hk, rfl⟩ := mem_getD hr
    have := (bestK_min l l.length k hk hr2).2
    rw [h, Int.toNat_natCast] at this
    exact this
/-- What grants keep. -/
theorem fits_com {l : List Rq} {q : Rq} (h : l.any (fitsP q) = false) : ∀ a ∈ l, a.id ≠ q.id → a.mode ≠ 0 → comB a.mode q.want = true := by
  intro a ha h1 h2
  have := List.any_eq_false.1 h a ha
  cases hc : comB a.mode q.want with
  | true => rfl
  | false =>
    refine absurd ?_ this
    simp only [fitsP, bne_iff_ne, ne_eq, h1, h2, hc, not_false_eq_true, Bool.and_self, Bool.not_false, Bool.and_true]
    simp [h1, h2]
theorem ord_grant {n : Int} {l : List Rq} {i : Nat} (h : Ord n l) (hi : firstI l = i) (hf : l.any (fitsP (l.getD i default)) = false) : Ord n (grant l i) := by
  obtain ⟨hil, hop, hw⟩ := first_pos l i hi
  have hr := h.right _ (getD_mem l i hil)
  obtain ⟨hs, hwz⟩ := hr.wait hop
  have hc := fits_com hf
  unfold grant
  refine ord_set h (Int.le_refl _) h.hi ⟨hr.1, hr.2.2.1, hr.2.2.1, Int.le_refl _, h.lo, fun h => absurd h (by simp), fun _ => ⟨hwz, rfl⟩⟩ (fun k hk _ => ?_) (fun k hk hkl => ?_)
  · obtain ⟨p1, p2, p3, p4, p5⟩ := h.pair k i hk hil
    have hm : (l.getD k default).mode ≠ 0 := by
      intro hm
      rcases hw with ⟨hu, _⟩ | ⟨_, _, hj⟩
      · simp only [upB, Bool.and_eq_true, bne_iff_ne] at hu
        exact hu.1 (p4 hm).1
      · exact hj k hk hm
    exact ⟨p1, p2, fun h => by show _ ≠ (0 : Int); omega, fun h => absurd h hm, fun _ _ => hc _ (getD_mem l k (by omega)) p1 hm⟩
  · obtain ⟨p1, p2, p3, p4, p5⟩ := h.pair i k hk hkl
    exact ⟨p1, p2, fun h => absurd h (by simp), fun h => absurd h hwz, fun _ hm => by rw [com_symm]; exact hc _ (getD_mem l k hkl) (fun h => p1 h.symm) hm⟩
theorem ord_scan {n : Int} : ∀ (g : Nat) (l : List Rq) (ids : List Int), Ord n l → Ord n (scanN g l ids).1
  | 0, l, ids, h => h
  | g+1, l, ids, h => by
    unfold scanN
    split
    · exact h
    · rename_i h0
      split
      · exact h
      · rename_i hf
        obtain ⟨i, hi, _⟩ := firstI_spec l (by omega)
        rw [hi, Int.toNat_natCast] at hf ⊢
        exact ord_scan g _ _ (ord_grant h hi (by simpa using hf))
theorem scan_len : ∀ (g : Nat) (l : List Rq) (ids : List Int), (scanN g l ids).1.length = l.length
  | 0, l, ids => rfl
  | g+1, l, ids => by
    unfold scanN
    split
    · rfl
    · split
      · rfl
      · rw [scan_len g, grant_len]
/-- The place of a request. -/
def plc (l : List Rq) (id : Int) : Int := idxF (fun q => q.id == id) l 0
theorem plc_spec (l : List Rq) (id : Int) (h : ¬ plc l id < 0) : ∃ i : Nat, plc l id = i ∧ i < l.length ∧ (l.getD i default).id = id := by
  rcases idxF_bd (fun q : Rq => q.id == id) l 0 with h' | ⟨j, h1, h2, h3⟩
  · unfold plc at h; omega
  · exact ⟨j, by unfold plc; rw [h1]; simp, h2, by simpa using h3⟩
end Go.Proofs.Ytcnkmhfcgkbhbaa
namespace Go.Proofs.Ytcnkmhfcgkbhbaa
open Go.RowKit
section
variable {P : Program} {ops : Array Oper} {Q : Exit → Act → World → Prop} {md : Region.Mode} {S : World → Prop}
theorem put_back {v : Value} {d : Option Tmp} (hQ : ∀ c t t' d w, Q (.panic c) ⟨t, d⟩ w → Q (.panic c) ⟨t', d⟩ w) : ∀ c a w, Q (.panic c) (a.put d v) w → Q (.panic c) a w := fun c a w h => by
  obtain ⟨t, e⟩ := a
  cases d with
  | none => exact h
  | some k => exact hQ c _ t e w h
theorem held_begin {id : Nat} {a : Act} {w : World} (S : World → Prop) (hm : P.follows .mixedOrders = true) (hS : S w.drew)
    (h : wpAnyH P .any ops Q S ops.size (Array.replicate ops.size false) a w.drew) : (Code.region id ops true).wp P Q a w := wp_region_held_drew hm hS (fun _ => h)
theorem held_take (i : Nat) (v : Value) {oi : Oper} {fuel : Nat} {listed : Array Bool} {a : Act} {w : World} (hi : ops[i]? = some oi)
    (hs : Region.noSelect ops = true) (hf : Region.free md ops listed i = true) (hr : (Region.ready md ops listed).contains i = true)
    (hQ : ∀ c t t' d w, Q (.panic c) ⟨t, d⟩ w → Q (.panic c) ⟨t', d⟩ w) (hw : Region.wanted oi (yielded ops a.tmps) = true) (hS : S w)
    (hy : ∀ w, S w → (execOp a.eval oi).run P w = .ok (.value v) w)
    (h : wpAnyH P md ops Q S fuel (listed.setIfInBounds i true) (a.put oi.dst v) w) : wpAnyH P md ops Q S (fuel + 1) listed a w :=
  wpAnyH_take hi hs hf hr (put_back hQ) (.inl ⟨hw, hy⟩) hS h
theorem held_skip (i : Nat) {oi : Oper} {fuel : Nat} {listed : Array Bool} {a : Act} {w : World} (hi : ops[i]? = some oi)
    (hs : Region.noSelect ops = true) (hf : Region.free md ops listed i = true) (hr : (Region.ready md ops listed).contains i = true)
    (hQ : ∀ c t t' d w, Q (.panic c) ⟨t, d⟩ w → Q (.panic c) ⟨t', d⟩ w) (hw : Region.wanted oi (yielded ops a.tmps) = false) (hS : S w)
    (h : wpAnyH P md ops Q S fuel (listed.setIfInBounds i true) (a.put oi.dst undef) w) : wpAnyH P md ops Q S (fuel + 1) listed a w :=
  wpAnyH_take hi hs hf hr (put_back hQ) (.inr ⟨hw, rfl⟩) hS h
theorem held_one (i : Nat) {oi : Oper} {fuel : Nat} {listed : Array Bool} {a : Act} {w : World} (hr : Region.ready md ops listed = [i]) (hi : ops[i]? = some oi)
    (hw : Region.wanted oi (yielded ops a.tmps) = true)
    (h : ∀ K : Act → World → Prop, Hid (∀ a w, S w → wpAnyH P md ops Q S fuel (listed.setIfInBounds i true) a w → K a w) → oi.wp P a w K Q) : wpAnyH P md ops Q S (fuel + 1) listed a w :=
  wpAnyH_ready hr (by simp) (AllReadyH.cons hi (fun K hK => by
    rw [if_pos hw]
    exact h K (fun a w hS hW => hK a w hS (fun _ => hW))) AllReadyH.nil)
end
/-- Behind a piece of code: what is handed on, and no panic. -/
def CutQ (R : Act → World → Prop) : Exit → Act → World → Prop
  | .normal, a, w => R a w
  | _, _, _ => False
theorem CutQ.mk {R : Act → World → Prop} {a : Act} {w : World} (h : R a w) : CutQ R .normal a w := h
end Go.Proofs.Ytcnkmhfcgkbhbaa
namespace Go.Proofs.Ytcnkmhfcgkbhbaa
open Go.RowKit
section
variable {P : Program} {ops : Array Oper} {Q : Exit → Act → World → Prop} {md : Region.Mode} {S : World → Prop}
/-- The plan, operation by operation: (i, true): taken first, or passed over; (i, false): alone ready. -/
def HL (P : Program) (ops : Array Oper) (Q : Exit → Act → World → Prop) (S : World → Prop) : List (Nat × Bool) → Act → World → Prop
  | [], a, w => Q .normal a w
  | (i, true) :: r, a, w => ∃ o, ops[i]? = some o ∧
      ((Region.wanted o (yielded ops a.tmps) = true ∧ ∃ v, (∀ W, S W → (execOp a.eval o).run P W = .ok (.value v) W) ∧ HL P ops Q S r (a.put o.dst v) w) ∨
       (Region.wanted o (yielded ops a.tmps) = false ∧ HL P ops Q S r (a.put o.dst undef) w))
  | (i, false) :: r, a, w => ∃ o, ops[i]? = some o ∧
      ((Region.wanted o (yielded ops a.tmps) = true ∧ ∀ K : Act → World → Prop, Hid (∀ a w, S w → HL P ops Q S r a w → K a w) → o.wp P a w K Q) ∨
       (Region.wanted o (yielded ops a.tmps) = false ∧ HL P ops Q S r (a.put o.dst undef) w))
def planOK (md : Region.Mode) (ops : Array Oper) : List (Nat × Bool) → Array Bool → Bool
  | [], l => (Region.ready md ops l).isEmpty
  | (i, true) :: r, l => Region.free md ops l i && (Region.ready md ops l).contains i && planOK md ops r (l.setIfInBounds i true)
  | (i, false) :: r, l => (Region.ready md ops l == [i]) && planOK md ops r (l.setIfInBounds i true)
theorem HL.sound (hs : Region.noSelect ops = true) (hQ : ∀ c t t' d w, Q (.panic c) ⟨t, d⟩ w → Q (.panic c) ⟨t', d⟩ w) : ∀ (p : List (Nat × Bool)) (l : Array Bool) (a : Act) (w : World), planOK md ops p l = true → S w → HL P ops Q S p a w → wpAnyH P md ops Q S p.length l a w
  | [], l, a, w, hp, hS, h => by
    simp only [planOK, List.isEmpty_iff] at hp
    exact wpAnyH_done hp h _
  | (i, true) :: r, l, a, w, hp, hS, h => by
    simp only [planOK, Bool.and_eq_true] at hp
    obtain ⟨o, ho, ⟨hw, v, hy, h⟩ | ⟨hw, h⟩⟩ := h
    · exact held_take i v ho hs hp.1.1 hp.1.2 hQ hw hS hy (HL.sound hs hQ r _ _ _ hp.2 hS h)
    · exact held_skip i ho hs hp.1.1 hp.1.2 hQ hw hS (HL.sound hs hQ r _ _ _ hp.2 hS h)
  | (i, false) :: r, l, a, w, hp, hS, h => by
    simp only [planOK, Bool.and_eq_true, beq_iff_eq] at hp
    obtain ⟨o, ho, ⟨hw, h⟩ | ⟨hw, h⟩⟩ := h
    · exact held_one i hp.1 ho hw (fun K hK => h K (fun a w hS' h' => hK.out a w hS' (HL.sound hs hQ r _ _ _ hp.2 hS' h')))
    · refine wpAnyH_ready hp.1 (by simp) (AllReadyH.cons ho (fun K hK => ?_) AllReadyH.nil)
      rw [if_neg (by rw [hw]; decide)]
      exact hK _ w hS (fun _ => HL.sound hs hQ r _ _ _ hp.2 hS h)
/-- The beginning. -/
theorem hl_begin {id : Nat} {a : Act} {w : World} (S : World → Prop) (p : List (Nat × Bool)) (hm : P.follows .mixedOrders = true) (hs : Region.noSelect ops = true)
    (hp : planOK .any ops p (Array.replicate ops.size false) = true) (hn : p.length = ops.size) (hQ : ∀ c t t' d w, Q (.panic c) ⟨t, d⟩ w → Q (.panic c) ⟨t', d⟩ w) (hS : S w.drew)
    (h : HL P ops Q S p a w.drew) : (Code.region id ops true).wp P Q a w :=
  held_begin S hm hS (by have := HL.sound hs hQ p _ a _ hp hS h; rw [hn] at this; exact this)
theorem hl_take {i : Nat} {r : List (Nat × Bool)} (v : Value) {o : Oper} {a : Act} {w : World} (hi : ops[i]? = some o) (hw : Region.wanted o (yielded ops a.tmps) = true)
    (hy : ∀ W, S W → (execOp a.eval o).run P W = .ok (.value v) W) (h : HL P ops Q S r (a.put o.dst v) w) : HL P ops Q S ((i, true) :: r) a w := ⟨o, hi, .inl ⟨hw, v, hy, h⟩⟩
theorem hl_one {i : Nat} {r : List (Nat × Bool)} {o : Oper} {a : Act} {w : World} (hi : ops[i]? = some o) (hw : Region.wanted o (yielded ops a.tmps) = true)
    (h : ∀ K : Act → World → Prop, Hid (∀ a w, S w → HL P ops Q S r a w → K a w) → o.wp P a w K Q) : HL P ops Q S ((i, false) :: r) a w := ⟨o, hi, .inl ⟨hw, h⟩⟩
theorem hl_done {a : Act} {w : World} (h : Q .normal a w) : HL P ops Q S [] a w := h
end
end Go.Proofs.Ytcnkmhfcgkbhbaa
namespace Go.Proofs.Ytcnkmhfcgkbhbaa
open Go.RowKit
theorem find_none (t r n : Int) (v : Value) (l : List Rq) (id0 : Int) (w : World) (hv : RQ w v l) (hl : l.length ≤ 1000) (hi : plc l id0 = -1) :
    Calls Try.prog 47 #[hval t r v n, .int .i64 id0] w fun e w' => e = .returned (.tuple #[(⟨0, 0, 0, 0, 0⟩ : Rq).val, .bool false]) ∧ Below w.heap.size w w' := by
  have hB := Lib.hid (boxes2 w 29 39 #[.int .i64 t, .int .i64 r, v, .int .i64 n] #[.int .i64 0, .int .i64 0, .int .i64 0, .int .i64 0, .int .i64 0])
  have HP := Lib.hid (fun W hb => place_any t r n v l id0 W (hv.below hb) hl)
  rw [show idxF (fun q : Rq => q.id == id0) l 0 = _ from hi] at HP
  obtain ⟨a, c, rfl, _⟩ := hv
  unfold hval Rq.val at *
  go_enter Try.func47, Try.ntmps47
  go_wp2_with fail
  refine (HP.out _ hB.out.tail.tail.gold).mono ?_
  rintro e w1 ⟨rfl, b1⟩
  replace hB := Lib.hid (hB.out.below b1)
  obtain ⟨_, p0, p1, p2, p3, p4, _⟩ := hB.out.b5
  clear b1
  go_wp2_with fail
  refine bodyPost_ret (v := .tuple #[.agg #[.int .i64 0, .int .i64 0, .int .i64 0, .int .i64 0, .int .i64 0], .bool false]) (by simp [results, Try.results47, go_sem, *]) rfl ⟨rfl, ?_⟩
  first | exact hB.out.tail.tail.gold | exact (((((hB.out.set 0 (.int .i64 0)).set 1 (.int .i64 0)).set 2 (.int .i64 0)).set 3 (.int .i64 0)).set 4 (.int .i64 0)).tail.tail.gold
theorem find_some (t r n : Int) (v : Value) (l : List Rq) (id0 : Int) (w : World) (hv : RQ w v l) (hl : l.length ≤ 1000) (i : Nat) (hi : plc l id0 = i) (hil : i < l.length) :
    Calls Try.prog 47 #[hval t r v n, .int .i64 id0] w fun e w' => e = .returned (.tuple #[(l.getD i default).val, .bool true]) ∧ Below w.heap.size w w' := by
  have hB := Lib.hid (boxes2 w 29 39 #[.int .i64 t, .int .i64 r, v, .int .i64 n] #[.int .i64 0, .int .i64 0, .int .i64 0, .int .i64 0, .int .i64 0])
  have HP := Lib.hid (fun W hb => place_any t r n v l id0 W (hv.below hb) hl)
  rw [show idxF (fun q : Rq => q.id == id0) l 0 = _ from hi] at HP
  have i1 : (0 : Int) ≤ (i : Int) := by omega
  have i2 : (i : Int) < (l.length : Int) := by omega
  have d : decide ((i : Int) < 0) = false := by rw [decide_eq_false_iff_not]; omega
  obtain ⟨a, c, rfl, _, _, hr⟩ := hv
  obtain ⟨b, off, rfl, hbl, hz⟩ := hr (by omega)
  have hzi := hz i hil
  clear hz hr hil hi
  generalize l.getD i default = q at *
  obtain ⟨id, txn, mode, want, since⟩ := q
  unfold hval Rq.val at *
  simp only at hzi ⊢
  go_enter Try.func47, Try.ntmps47
  go_wp2_with fail
  refine (HP.out _ hB.out.tail.tail.gold).mono ?_
  rintro e w1 ⟨rfl, b1⟩
  replace hB := Lib.hid (hB.out.below b1)
  obtain ⟨_, p0, p1, p2, p3, p4, f0, f1, f2, f3, f4⟩ := hB.out.b5
  obtain ⟨_, k0, k1, k2, k3, _⟩ := hB.out.to1.b4
  obtain ⟨z0, z1, z2, z3, z4⟩ := hzi
  rw [← hB.out.tail.tail.gold.cell (by exact hbl)] at z0 z1 z2 z3 z4
  clear b1 HP
  go_wp2_with fail
  refine bodyPost_ret (v := .tuple #[.agg #[.int .i64 id, .int .i64 txn, .int .i64 mode, .int .i64 want, .int .i64 since], .bool true]) (by simp [results, Try.results47, go_sem, *]) rfl ⟨rfl, ?_⟩
  exact (((((hB.out.set 0 (.int .i64 id)).set 1 (.int .i64 txn)).set 2 (.int .i64 mode)).set 3 (.int .i64 want)).set 4 (.int .i64 since)).tail.tail.gold
end Go.Proofs.Ytcnkmhfcgkbhbaa
namespace Go.Proofs.Ytcnkmhfcgkbhbaa
open Go.RowKit
theorem plc_neg {l : List Rq} {id : Int} (h : plc l id < 0) : plc l id = -1 := by
  rcases idxF_bd (fun q : Rq => q.id == id) l 0 with h' | ⟨j, h1, _, _⟩
  · exact h'
  · unfold plc at h; omega
end Go.Proofs.Ytcnkmhfcgkbhbaa
