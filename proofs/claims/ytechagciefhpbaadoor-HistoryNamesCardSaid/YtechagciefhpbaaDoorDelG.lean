/-
  Slices of records of one's own: records put in place; what a filter keeps; clear of a tail. No condition.
-/
import Derived.Test.YtechagciefhpbaaDoorRL
import Derived.Test.YtechagciefhpbaaDoorPick
namespace Go.Proofs.YtechagciefhpbaaDoor
set_option linter.unusedSimpArgs false
set_option linter.unusedVariables false
set_option linter.unnecessarySimpa false
open Go.RowKit
def setN (l : List Value) (k : Nat) : List Value → List Value
  | [] => l
  | u :: us => setN (l.set k u) (k + 1) us
def setW (w : World) (g k : Nat) : List Value → World
  | [] => w
  | u :: us => setW (w.setCell ⟨g, k, none⟩ u) g (k + 1) us
theorem setN_len : ∀ (us l : List Value) (k : Nat), (setN l k us).length = l.length
  | [], _, _ => rfl
  | u :: us, l, k => by rw [setN, setN_len us, List.length_set]
theorem setN_eq : ∀ (us l : List Value) (k : Nat), k + us.length ≤ l.length → setN l k us = l.take k ++ us ++ l.drop (k + us.length)
  | [], l, k, _ => by simp [setN]
  | u :: us, l, k, h => by
    simp only [List.length_cons] at h
    rw [setN, setN_eq us _ _ (by rw [List.length_set]; omega), List.take_succ_eq_append_getElem (by rw [List.length_set]; omega), List.take_set_of_le (Nat.le_refl _), List.getElem_set_self, List.drop_set_of_lt (by omega)]
    simp [Nat.add_assoc, Nat.add_comm 1]
section
variable {w : World} {e : TypeId} {size n : Nat} {xs : List Value} {rs : List Res}
theorem Sep.vec_setN {g c : Nat} : ∀ (us : List Value) (k : Nat) (w : World) (xs : List Value), Sep w (vec e size (.slice (some ⟨g, 0, none⟩) n c) n xs :: rs) → k + us.length ≤ xs.length → Sep (setW w g k us) (vec e size (.slice (some ⟨g, 0, none⟩) n c) n (setN xs k us) :: rs)
  | [], _, _, _, h, _ => h
  | u :: us, k, w, xs, h, hk => Sep.vec_setN us (k + 1) _ _ (h.vec_set (by simp only [List.length_cons] at hk; omega) u) (by simp only [List.length_cons, List.length_set] at hk ⊢; omega)
end
section
variable {α : Type} {enc : α → List Value} {sz : Nat}
theorem flat_put (hz : ∀ x, (enc x).length = sz) (l : List α) (i : Nat) (q : α) (h : i < l.length) : setN (l.flatMap enc) (i * sz) (enc q) = (l.set i q).flatMap enc := by
  have hl := flat_len enc sz hz l
  have h1 : i * sz + sz ≤ l.length * sz := by rw [← Nat.succ_mul]; exact Nat.mul_le_mul_right _ h
  rw [setN_eq _ _ _ (by rw [hz, hl]; exact h1), hz, flat_take enc sz hz l i (by omega), List.set_eq_take_append_cons_drop, if_pos h, List.flatMap_append, List.flatMap_cons, List.append_assoc]
  congr 2
  have h2 : l = l.take (i + 1) ++ l.drop (i + 1) := (List.take_append_drop _ _).symm
  have h3 := flat_len enc sz hz (l.take (i + 1))
  rw [List.length_take, Nat.min_eq_left (by omega)] at h3
  conv => lhs; rw [h2, List.flatMap_append]
  rw [List.drop_append_of_le_length (by rw [h3, Nat.succ_mul]; exact Nat.le_refl _), List.drop_of_length_le (by rw [h3, Nat.succ_mul]; exact Nat.le_refl _), List.nil_append]
end
section
variable {w : World} {e : TypeId} {size n : Nat} {xs : List Value} {rs : List Res}
theorem run_clear_sep {P : Program} {g c : Nat} (hS : Sep w (vec e size (.slice (some ⟨g, 0, none⟩) n c) n xs :: rs)) (t ty : TypeId) (z : Value) (ht : P.underlying t = some (.slice e)) (hz : ∀ w : World, (zeroValue e).run P w = .ok z w)
    (hzs : z.cells.size = size) (hz1 : ∀ u ∈ z.cells.toList, u.oneCell' = true) (k : Nat) (hk : k < n) (c' : Nat) :
    ∃ w' ys, (Builtin.clear_ #[t] ty #[.slice (some ⟨g, k * size, none⟩) (n - k) c']).run P w = .ok (.tuple #[]) w' ∧ Sep w' (vec e size (.slice (some ⟨g, 0, none⟩) n c) n (xs.take (k * size) ++ ys) :: rs) := by
  have hl := hS.gvec.1
  obtain ⟨cur, hB, hnc, hcm, hcs, htk⟩ := hS.vec_blk
  have hg := hB.gblk
  have hzl : (Builtin.zeroCells z.cells (n - k)).toList.length = (n - k) * size := by rw [Array.length_toList, size_zeroCells, hzs]
  have hn : k * size + (n - k) * size = n * size := by rw [← Nat.add_mul]; congr 1; omega
  have hnc' : n * size ≤ c * size := Nat.mul_le_mul_right _ hnc
  have hst := run_storeCells_at P g (k * size) e (Builtin.zeroCells z.cells (n - k)).toList 0 cur w hg (by rw [hzl]; omega) (by
    intro u hu
    simp only [Builtin.zeroCells, Array.toList_map, List.mem_map, Array.toList_range, List.mem_range] at hu
    obtain ⟨j, hj, rfl⟩ := hu
    have hsz : 0 < z.cells.size := by
      rcases Nat.eq_zero_or_pos z.cells.size with h0 | h0
      · rw [h0] at hj; simp at hj
      · exact h0
    have hlt : j % z.cells.size < z.cells.size := Nat.mod_lt _ hsz
    have hm : z.cells[j % z.cells.size]! ∈ z.cells.toList := by
      rw [getElem!_pos z.cells _ hlt]
      exact Array.getElem_mem_toList hlt
    exact hz1 _ hm)
  simp only [Nat.add_zero] at hst
  refine ⟨w.setRow g (cur.toList.take (k * size) ++ (Builtin.zeroCells z.cells (n - k)).toList ++ cur.toList.drop (k * size + (Builtin.zeroCells z.cells (n - k)).toList.length)).toArray, (Builtin.zeroCells z.cells (n - k)).toList, ?_, ?_⟩
  · obtain ⟨d, hd⟩ : ∃ d, n - k = d + 1 := ⟨n - k - 1, by omega⟩
    rw [hd] at hst ⊢
    simp [Builtin.clear_, run_underlying ht, hz, hst]
  · obtain ⟨A, h1, h2⟩ := hB.open_
    have hS2 : Sep (w.setRow g (cur.toList.take (k * size) ++ (Builtin.zeroCells z.cells (n - k)).toList ++ cur.toList.drop (k * size + (Builtin.zeroCells z.cells (n - k)).toList.length)).toArray) (blk g e (cur.toList.take (k * size) ++ (Builtin.zeroCells z.cells (n - k)).toList ++ cur.toList.drop (k * size + (Builtin.zeroCells z.cells (n - k)).toList.length)).toArray :: rs) :=
      h2 _ _ A ⟨h1.1, setRow_heap w g cur _ e _ hg⟩ ⟨rfl, rfl, rfl, by simp, fun b _ hb => setRow_other w g b _ (fun e => hb ((h1.1 b).2 e))⟩ (fun _ => .inl)
    have hkn : k * size ≤ n * size := Nat.mul_le_mul_right _ (by omega)
    have hcl : cur.toList.length = c * size := by rw [Array.length_toList, hcs]
    refine hS2.blk_vec ?_ hnc hcm ?_ ?_
    · rw [List.length_append, List.length_take, hl, hzl]; omega
    · simp only [List.size_toArray, List.length_append, List.length_take, List.length_drop, hzl, hcl]; omega
    · have ht2 : (cur.toList.take (k * size)) = xs.take (k * size) := by rw [← htk, List.take_take, Nat.min_eq_left hkn]
      rw [ht2]
      simp only
      rw [List.take_append_of_le_length (by rw [List.length_append, List.length_take, hl, hzl]; omega)]
      exact List.take_of_length_le (by rw [List.length_append, List.length_take, hl, hzl]; omega)
/-- clear of the tail of a slice of the call's own. -/
theorem wpList_clear_sep {P : Program} {ops : Array Oper} {rest : List Oper} {o : Oper} {a : Act} {Q : Exit → Act → World → Prop} {g c : Nat} (hS : Sep w (vec e size (.slice (some ⟨g, 0, none⟩) n c) n xs :: rs)) (hw : Region.wanted o (yielded ops a.tmps) = true) (x : Operand) (t : TypeId)
    (ho : o.op = .call { callee := .builtin .clear, args := #[x], argTypes := #[t] }) (z : Value) (ht : P.underlying t = some (.slice e)) (hz : ∀ w : World, (zeroValue e).run P w = .ok z w)
    (hzs : z.cells.size = size) (hz1 : ∀ u ∈ z.cells.toList, u.oneCell' = true) (k : Nat) (hk : k < n) (c' : Nat) (hx : a.eval x = .slice (some ⟨g, k * size, none⟩) (n - k) c')
    (h : ∀ w' ys, Sep w' (vec e size (.slice (some ⟨g, 0, none⟩) n c) n (xs.take (k * size) ++ ys) :: rs) → wpList P ops Q rest (a.put o.dst (.tuple #[])) w') : wpList P ops Q (o :: rest) a w := by
  obtain ⟨w', ys, hr, hS'⟩ := run_clear_sep (P := P) hS t o.type z ht hz hzs hz1 k hk c'
  unfold wpList
  rw [if_pos hw]
  refine .inl ?_
  unfold Oper.wp execOp
  simp only [ho, resolve, invoke, builtin, Sem.run_bind, Sem.run_pure, Result.andThen_ok, List.map_toArray, List.map_cons, List.map_nil, hx, hr]
  exact h w' ys hS'
end
section
variable {α : Type} [Inhabited α]
def keepL (p : α → Bool) (l : List α) : List α := l.filter fun q => !p q
theorem take_snocL (l : List α) (k : Nat) (h : k < l.length) : l.take (k + 1) = l.take k ++ [l.getD k default] := by
  rw [List.take_succ_eq_append_getElem h]; simp [List.getD, h]
theorem keepL_snoc (p : α → Bool) (l : List α) (k : Nat) (h : k < l.length) : keepL p (l.take (k + 1)) = keepL p (l.take k) ++ (if p (l.getD k default) then [] else [l.getD k default]) := by
  rw [take_snocL l k h]
  unfold keepL
  rw [List.filter_append]
  generalize l.getD k default = q
  cases hp : p q <;> simp [hp]
end
theorem take_set_snocL {α : Type} (l : List α) (i : Nat) (q : α) (h : i < l.length) : (l.set i q).take (i + 1) = l.take i ++ [q] := by
  rw [List.take_succ_eq_append_getElem (by rw [List.length_set]; exact h), List.take_set_of_le (Nat.le_refl _)]
  simp
theorem Sep.vec_at {α : Type} [Inhabited α] {enc : α → List Value} {sz : Nat} (hz : ∀ x, (enc x).length = sz) {w : World} {e : TypeId} {a : Option Addr} {m c i : Nat} {l : List α} {rs : List Res} (h : Sep w (vec e sz (.slice a m c) m (l.flatMap enc) :: rs)) (hl : l.length = m) (hi : i < m) :
    ∃ g, a = some ⟨g, 0, none⟩ ∧ g < w.heap.size ∧ m ≤ c ∧ (∀ f u, (enc (l.getD i default))[f]? = some u → w.cell? ⟨g, i * sz + f, none⟩ = some u) ∧ ∀ o, w.frozen? ⟨g, o, none⟩ = false := by
  rcases h.gvec.2 with ⟨_, h0⟩ | ⟨g, cap, cur, hv, _⟩
  · omega
  · injection hv with e1 _ e3
    subst e1 e3
    obtain ⟨cur2, hB, hnc, _, _, ht⟩ := h.vec_blk
    refine ⟨g, rfl, hB.gblk.lt, hnc, fun f u hu => ?_, fun o => hB.gblk.frozen o⟩
    have hx : l[i]? = some (l.getD i default) := by
      rw [List.getElem?_eq_getElem (by omega)]
      simp [List.getD, show i < l.length by omega]
    have hf : f < sz := by rw [← hz]; exact (List.getElem?_eq_some_iff.1 hu).1
    have h1 := flat_at enc sz hz l i f _ hx hf
    rw [← ht, hu] at h1
    have h2 : cur2.toList[i * sz + f]? = some u := by
      rw [List.getElem?_take] at h1
      split at h1
      · exact h1
      · cases h1
    rw [hB.gblk.cell, ← h2]
    simp
end Go.Proofs.YtechagciefhpbaaDoor
