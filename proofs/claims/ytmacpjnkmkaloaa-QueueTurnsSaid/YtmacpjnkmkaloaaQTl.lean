/-
  What a scan does to whom: a plain law. No condition.
-/
import Derived.Test.YtmacpjnkmkaloaaQOrd
namespace Go.Proofs.Ytmacpjnkmkaloaa
open Go.RowKit
def given (q : Rq) : Rq := { q with mode := q.want, since := 0 }
structure ScanRel (l cur : List Rq) (ids : List Int) : Prop where
  len : cur.length = l.length
  one : ∀ i, i < l.length → cur.getD i default = l.getD i default ∨ (0 < (l.getD i default).since ∧ cur.getD i default = given (l.getD i default))
  turn : ∀ k i, k < i → i < l.length → (l.getD k default).mode = 0 → (l.getD i default).mode = 0 → (cur.getD i default).since = 0 → (cur.getD k default).since = 0
  who : ∀ x ∈ ids, ∃ j, j < l.length ∧ (l.getD j default).id = x ∧ 0 < (l.getD j default).since ∧ ((l.getD j default).mode = 0 → ∀ i, i < l.length → upB (l.getD i default) = true → (cur.getD i default).since = 0)
theorem rel_start {n : Int} {l : List Rq} (h : Ord n l) : ScanRel l l [] := by
  refine ⟨rfl, fun i _ => .inl rfl, fun k i hk hi _ hm hs => ?_, fun x hx => absurd hx (by simp)⟩
  obtain ⟨_, _, _, _, _, _, h7⟩ := h.right _ (getD_mem l i hi)
  exact absurd hm (h7 (by omega)).1
theorem grant_getD (l : List Rq) (i j : Nat) (h : j < l.length) : (grant l i).getD j default = if i = j then given (l.getD i default) else l.getD j default := by
  unfold grant
  rw [getD_set _ _ _ _ h]
  rfl
theorem rel_step {n : Int} {l cur : List Rq} {ids : List Int} {i : Nat} (hR : ScanRel l cur ids) (hO : Ord n cur) (hi : firstI cur = i) : ScanRel l (grant cur i) (ids ++ [(cur.getD i default).id]) := by
  obtain ⟨hil, hop, hw⟩ := first_pos cur i hi
  have hs := ((hO.right _ (getD_mem cur i hil)).wait hop).1
  have hil' : i < l.length := by rw [← hR.len]; exact hil
  have hci : cur.getD i default = l.getD i default := by
    rcases hR.one i hil' with h | ⟨_, h⟩
    · exact h
    · rw [h] at hs; exact absurd hs (by simp [given])
  have keep : ∀ j, j < l.length → (cur.getD j default).since = 0 → ((grant cur i).getD j default).since = 0 := by
    intro j hj h0
    rw [grant_getD _ _ _ (by rw [hR.len]; exact hj)]
    split
    · rfl
    · exact h0
  refine ⟨by rw [grant_len]; exact hR.len, fun j hj => ?_, fun k j hkj hj hmk hmj hsj => ?_, fun x hx => ?_⟩
  · rw [grant_getD _ _ _ (by rw [hR.len]; exact hj)]
    split
    · rename_i h
      subst h
      rw [hci] at hs ⊢
      exact .inr ⟨hs, rfl⟩
    · exact hR.one j hj
  · refine keep k (by omega) ?_
    rw [grant_getD _ _ _ (by rw [hR.len]; exact hj)] at hsj
    split at hsj
    · rename_i h
      subst h
      rcases hw with ⟨hu, _⟩ | ⟨_, _, hj0⟩
      · rw [hci, show upB (l.getD i default) = false by unfold upB; rw [hmj]; rfl] at hu
        cases hu
      · have := hj0 k hkj
        rcases hR.one k (by omega) with h | ⟨_, h⟩
        · rw [h] at this; exact absurd hmk this
        · rw [h]; rfl
    · exact hR.turn k j hkj hj hmk hmj hsj
  · rcases List.mem_append.1 hx with hx | hx
    · obtain ⟨j, h1, h2, h3, h4⟩ := hR.who x hx
      exact ⟨j, h1, h2, h3, fun hm k hk hu => keep k hk (h4 hm k hk hu)⟩
    · rw [List.mem_singleton] at hx
      subst hx
      refine ⟨i, hil', by rw [hci], by rw [hci] at hs; exact hs, fun hm k hk hu => keep k hk ?_⟩
      rcases hw with ⟨hu2, _⟩ | ⟨_, hno, _⟩
      · rw [hci, show upB (l.getD i default) = false by unfold upB; rw [hm]; rfl] at hu2
        cases hu2
      · have := hno _ (getD_mem cur k (by rw [hR.len]; exact hk))
        rcases hR.one k hk with h | ⟨_, h⟩
        · rw [h, hu] at this; cases this
        · rw [h]; rfl
theorem rel_scan {n : Int} {l : List Rq} : ∀ (g : Nat) (cur : List Rq) (ids : List Int), Ord n cur → ScanRel l cur ids → ScanRel l (scanN g cur ids).1 (scanN g cur ids).2
  | 0, cur, ids, _, h => h
  | g+1, cur, ids, hO, h => by
    unfold scanN
    split
    · exact h
    · rename_i h0
      split
      · exact h
      · rename_i hf
        obtain ⟨i, hi, _⟩ := firstI_spec cur (by omega)
        rw [hi, Int.toNat_natCast] at hf ⊢
        exact rel_scan g _ _ (ord_grant hO hi (by simpa using hf)) (rel_step h hO hi)
theorem plc_at {n : Int} {l : List Rq} (h : Ord n l) (i : Nat) (hi : i < l.length) : plc l (l.getD i default).id = i := by
  have hd := checkB_ids n l ((ord_iff n l).2 h)
  have hn : ¬ plc l (l.getD i default).id < 0 := by
    intro hneg
    have := idxF_any (fun q : Rq => q.id == (l.getD i default).id) l 0
    unfold plc at hneg
    rw [decide_eq_false (by omega)] at this
    have h2 := List.any_eq_false.1 this.symm _ (getD_mem l i hi)
    simp at h2
  obtain ⟨j, h1, h2, h3⟩ := plc_spec l _ hn
  rw [h1, hd j i h2 hi h3]
end Go.Proofs.Ytmacpjnkmkaloaa
