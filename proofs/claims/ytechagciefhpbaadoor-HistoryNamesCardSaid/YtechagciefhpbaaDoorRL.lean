/-
  Slices of structs that hold plain values alone, known as lists of cells. No condition.
-/
import Derived.Test.YtechagciefhpbaaDoorSep
namespace Go.Proofs.YtechagciefhpbaaDoor
set_option linter.unusedSimpArgs false
set_option linter.unusedVariables false
set_option linter.unnecessarySimpa false
open Go.RowKit

/-- The value v is a slice of n elements of sz cells each, and its cells read as cs. -/
def RL (w : World) (v : Value) (sz n : Nat) (cs : List Value) : Prop :=
  cs.length = n * sz ∧ ∃ a c, v = .slice a n c ∧ n ≤ c ∧ (a = none → c = 0) ∧ (0 < n → ∃ b off, a = some ⟨b, off, none⟩ ∧ b < w.heap.size ∧ ∀ j u, cs[j]? = some u → w.cell? ⟨b, off + j, none⟩ = some u)
theorem RL.below {w w' : World} {v : Value} {sz n : Nat} {cs : List Value} (h : RL w v sz n cs) (hb : Below w.heap.size w w') : RL w' v sz n cs := by
  obtain ⟨hl, a, c, hv, hc, hna, hr⟩ := h
  refine ⟨hl, a, c, hv, hc, hna, fun h0 => ?_⟩
  obtain ⟨b, off, ha, hlt, hz⟩ := hr h0
  exact ⟨b, off, ha, Nat.lt_of_lt_of_le hlt hb.size, fun j u hj => (hb.cell (p := ⟨b, off + j, none⟩) hlt).trans (hz j u hj)⟩
theorem RL.nil (w : World) (sz : Nat) : RL w (.slice none 0 0) sz 0 [] := ⟨by simp, none, 0, rfl, Nat.le_refl _, fun _ => rfl, fun h => by omega⟩
theorem RL.srcA {w : World} {v : Value} {sz n : Nat} {cs : List Value} (h : RL w v sz n cs) : SrcA w sz v n cs := by
  obtain ⟨hl, a, c, rfl, hc, hna, hr⟩ := h
  by_cases h0 : 0 < n
  · obtain ⟨b, off, rfl, _, hz⟩ := hr h0
    exact .inr ⟨_, _, rfl, hl, fun j u hu => by rw [Addr.add_lit]; exact hz j u hu⟩
  · have hn : n = 0 := by omega
    subst hn
    have hcs : cs = [] := List.eq_nil_of_length_eq_zero (by simpa using hl)
    subst hcs
    cases a with
    | none => exact .inl ⟨by rw [hna rfl], rfl, rfl⟩
    | some ad => exact .inr ⟨ad, c, rfl, by simp, fun j u hu => by simp at hu⟩
theorem RL.of_own {w : World} {base : Nat} {e : TypeId} {sz n : Nat} {v : Value} {cs : List Value} (h : w.ownsRow base e sz v n cs) : RL w v sz n cs := by
  refine ⟨h.1, ?_⟩
  rcases h.2 with ⟨rfl, rfl⟩ | ⟨g, cap, cur, rfl, hb, hg, hnc, hcm, hcs, htake⟩
  · exact ⟨none, 0, rfl, Nat.le_refl _, fun _ => rfl, fun h => by omega⟩
  · refine ⟨_, cap, rfl, hnc, (fun h => by cases h), fun _ => ⟨g, 0, rfl, (Array.getElem?_eq_some_iff.1 hg).1, fun j u hu => ?_⟩⟩
    have := h.cells (g := g) rfl j u hu
    rw [Addr.add_lit] at this
    exact this
theorem Sep.vec_rl {w : World} {e : TypeId} {sz n : Nat} {v : Value} {cs : List Value} {rs : List Res} (h : Sep w (vec e sz v n cs :: rs)) : RL w v sz n cs := RL.of_own h.gvec

/-- Cells of records, one after the other. -/
theorem flat_len {α : Type} (enc : α → List Value) (sz : Nat) (hz : ∀ x, (enc x).length = sz) : ∀ l : List α, (l.flatMap enc).length = l.length * sz
  | [] => by simp
  | x :: l => by rw [List.flatMap_cons, List.length_append, hz, flat_len enc sz hz l, List.length_cons, Nat.succ_mul]; omega
theorem flat_at {α : Type} (enc : α → List Value) (sz : Nat) (hz : ∀ x, (enc x).length = sz) : ∀ (l : List α) (k j : Nat) (x : α), l[k]? = some x → j < sz → (l.flatMap enc)[k * sz + j]? = (enc x)[j]?
  | [], _, _, _, h, _ => by simp at h
  | y :: l, 0, j, x, h, hj => by
    simp at h
    subst h
    rw [List.flatMap_cons, List.getElem?_append_left (by rw [hz]; omega)]
    simp
  | y :: l, k + 1, j, x, h, hj => by
    have ih := flat_at enc sz hz l k j x (by simpa using h) hj
    rw [List.flatMap_cons, List.getElem?_append_right (by rw [hz, Nat.succ_mul]; omega), hz, ← ih]
    congr 1
    rw [Nat.succ_mul]
    omega
theorem flat_take {α : Type} (enc : α → List Value) (sz : Nat) (hz : ∀ x, (enc x).length = sz) (l : List α) (k : Nat) (hk : k ≤ l.length) : (l.flatMap enc).take (k * sz) = (l.take k).flatMap enc := by
  have h : l.flatMap enc = (l.take k).flatMap enc ++ (l.drop k).flatMap enc := by rw [← List.flatMap_append, List.take_append_drop]
  rw [h]
  have hl : ((l.take k).flatMap enc).length = k * sz := by rw [flat_len enc sz hz]; simp [Nat.min_eq_left hk]
  rw [← hl]
  simp
/-- Element k of a slice that reads as records: its cells, behind an address. -/
theorem RL.at_ {α : Type} {enc : α → List Value} {sz : Nat} (hz : ∀ x, (enc x).length = sz) {w : World} {v : Value} {l : List α} (h : RL w v sz l.length (l.flatMap enc)) (h0 : 0 < l.length) :
    ∃ b off c, v = .slice (some ⟨b, off, none⟩) l.length c ∧ l.length ≤ c ∧ b < w.heap.size ∧ ∀ k x, l[k]? = some x → ∀ j u, (enc x)[j]? = some u → w.cell? ⟨b, off + (k * sz + j), none⟩ = some u := by
  obtain ⟨_, a, c, rfl, hc, hna, hr⟩ := h
  obtain ⟨b, off, rfl, hb, hcell⟩ := hr h0
  refine ⟨b, off, c, rfl, hc, hb, fun k x hk j u hu => hcell _ _ ?_⟩
  have hj : j < sz := by rw [← hz x]; exact (List.getElem?_eq_some_iff.1 hu).1
  rw [flat_at enc sz hz l k j x hk hj]
  exact hu
end Go.Proofs.YtechagciefhpbaaDoor
