/-
  How slices of structs that hold plain values alone come in. No condition.
-/
import Derived.Test.YtdpolejbceoldaaDoorRL
import Derived.Test.YtdpolejbceoldaaDoorOpen
namespace Go.Proofs.YtdpolejbceoldaaDoor
set_option linter.unusedSimpArgs false
set_option linter.unusedVariables false
set_option linter.unnecessarySimpa false
open Go.RowKit Go.ChangeShapes Go.WideShapes Go.Deep

def leavesF (P : Program) (g : TypeId → Option (List Bool)) : List Field → Nat → Option (List Bool)
  | [], _ => some []
  | f :: r, off => if f.offset = off then (g f.type).bind fun a => if P.cellsOf f.type = a.length then (leavesF P g r (off + a.length)).map fun b => a ++ b else none else none
/-- The plain values of a type, in order: true: an int, false: a bool. -/
def leaves (P : Program) : Nat → TypeId → Option (List Bool)
  | 0, _ => none
  | n + 1, t => match P.underlying t with
    | some (.int .i64) => some [true]
    | some .bool => some [false]
    | some (.struct fs) => (leavesF P (leaves P n) fs.toList 0).bind fun a => if P.cellsOf t = a.length then some a else none
    | _ => none
def leafB : Bool → Value → Prop
  | true, v => ∃ n, v = .int .i64 n ∧ (Lit.int .i64 n).wf = true
  | false, v => ∃ b, v = .bool b
def Leafs (ks : List Bool) (cs : List Value) : Prop := cs.length = ks.length ∧ ∀ (j : Nat) (b : Bool) (v : Value), ks[j]? = some b → cs[j]? = some v → leafB b v
theorem Leafs.append {a b : List Bool} {cs ds : List Value} (h : Leafs a cs) (k : Leafs b ds) : Leafs (a ++ b) (cs ++ ds) := by
  refine ⟨by simp [h.1, k.1], fun j x v hx hv => ?_⟩
  by_cases hj : j < a.length
  · rw [List.getElem?_append_left hj] at hx
    rw [List.getElem?_append_left (by rw [h.1]; exact hj)] at hv
    exact h.2 j x v hx hv
  · rw [List.getElem?_append_right (by omega)] at hx
    rw [List.getElem?_append_right (by rw [h.1]; omega), h.1] at hv
    exact k.2 _ x v hx hv
section
variable {H : Type} {enc : TypeId × Value → H} {P : Program} {w : World} {base : Nat} {spare : Nat → Bool} {held : Bool}
theorem leavesF_spec {g : TypeId → Option (List Bool)} {n : Nat} {cs : List Value}
    (hg : ∀ t ks ds x, g t = some ks → DataW.trod enc P w base spare held n t ds = some x → Leafs ks ds) :
    ∀ (fs : List Field) (off : Nat) (ks : List Bool), leavesF P g fs off = some ks → off + ks.length ≤ cs.length →
      (∀ f ∈ fs, ∃ x, DataW.trod enc P w base spare held n f.type ((cs.drop f.offset).take (P.cellsOf f.type)) = some x) → Leafs ks ((cs.drop off).take ks.length)
  | [], off, ks, h, hl, _ => by
    simp [leavesF] at h
    subst h
    exact ⟨by simp, fun j b v hb => by simp at hb⟩
  | f :: r, off, ks, h, hl, hf => by
    simp only [leavesF] at h
    split at h
    · rename_i hoff
      cases ha : g f.type with
      | none => rw [ha] at h; simp at h
      | some a =>
        rw [ha] at h
        simp only [Option.bind_some] at h
        split at h
        · rename_i hc
          cases hb : leavesF P g r (off + a.length) with
          | none => rw [hb] at h; simp at h
          | some b =>
            rw [hb] at h
            simp only [Option.map_some, Option.some.injEq] at h
            subst h
            rw [List.length_append] at hl
            obtain ⟨x, hx⟩ := hf f (.head _)
            have h1 := hg _ _ _ _ ha hx
            rw [hoff, hc] at h1
            have h2 := leavesF_spec hg r (off + a.length) b hb (by omega) (fun f' hf' => hf f' (.tail _ hf'))
            have e : (cs.drop off).take (a ++ b).length = (cs.drop off).take a.length ++ (cs.drop (off + a.length)).take b.length := by
              rw [List.length_append, List.take_add, List.drop_drop]
            rw [e]
            exact h1.append h2
        · simp at h
    · simp at h
theorem leaves_spec : ∀ (m : Nat) (t : TypeId) (ks : List Bool) (n : Nat) (ds : List Value) (x : DataW H × List MemPlace), leaves P m t = some ks → DataW.trod enc P w base spare held n t ds = some x → Leafs ks ds
  | 0, _, _, _, _, _, h, _ => by simp [leaves] at h
  | m + 1, t, ks, n, ds, x, h, hx => by
    simp only [leaves] at h
    split at h
    · rename_i ht
      injection h with h
      subst h
      obtain ⟨q, rfl, _, hw⟩ := DataW.trod_int ht hx
      exact ⟨rfl, fun j b v hb hv => by cases j with | zero => simp at hb hv; subst hb hv; exact ⟨q, rfl, hw⟩ | succ j => simp at hb⟩
    · rename_i ht
      injection h with h
      subst h
      obtain ⟨q, rfl, _⟩ := DataW.trod_bool ht hx
      exact ⟨rfl, fun j b v hb hv => by cases j with | zero => simp at hb hv; subst hb hv; exact ⟨q, rfl⟩ | succ j => simp at hb⟩
    · rename_i fs ht
      cases ha : leavesF P (leaves P m) fs.toList 0 with
      | none => rw [ha] at h; simp at h
      | some a =>
        rw [ha] at h
        simp only [Option.bind_some] at h
        split at h
        · rename_i hc
          injection h with h
          subst h
          obtain ⟨xs, n', rfl, _, hl, hxl, hf⟩ := DataW.trod_struct ht hx
          have := leavesF_spec (cs := ds) (n := n') (fun t ks ds x => leaves_spec m t ks n' ds x) fs.toList 0 a ha (by rw [hl, hc]; omega) (fun f hfm => by
            obtain ⟨i, hi⟩ := List.mem_iff_getElem?.1 hfm
            have hi' : fs[i]? = some f := by simpa using hi
            have h1 := hf i f hi'
            have h2 : i < xs.length := by rw [hxl]; exact (Array.getElem?_eq_some_iff.1 hi').1
            exact ⟨xs[i], by rw [h1, List.getElem?_eq_getElem h2]⟩)
          rw [List.drop_zero, List.take_of_length_le (by rw [hl, hc]; exact Nat.le_refl _)] at this
          exact this
        · simp at h
    · cases h
/-- A slice of structs of plain values that came in, as records. -/
theorem flat_open {α : Type} [Inhabited α] {ev : α → List Value} {G : α → Prop} {ks : List Bool} {t e : TypeId} {m : Nat} {a : Option Addr} {len cap : Nat} {d : DataW H} {p : List MemPlace} (ht : P.underlying t = some (.slice e))
    (hk : leaves P m e = some ks) (hC : P.cellsOf e = ks.length) (hpos : 0 < ks.length) (hev : ∀ x, (ev x).length = ks.length) (hof : ∀ cs, Leafs ks cs → ∃ x : α, cs = ev x ∧ G x)
    (h : DataW.Trod enc P w base spare held t (.slice a len cap) d p) : ∃ l : List α, l.length = len ∧ RL w (.slice a len cap) ks.length len (l.flatMap ev) ∧ cap ≤ maxLen ∧ ∀ x ∈ l, G x := by
  obtain ⟨fuel, hf⟩ := h
  rcases open_slice ht hf with ⟨hcs, _⟩ | ⟨x, l, c, m', n, D, Pl, hcs, hb, hl, hm, hmm, hx, hi⟩
  · simp [Value.cells] at hcs
    obtain ⟨rfl, rfl, rfl⟩ := hcs
    exact ⟨[], rfl, RL.nil w _, by simp [maxLen], fun x hx => by simp at hx⟩
  · simp [Value.cells] at hcs
    obtain ⟨rfl, rfl, rfl⟩ := hcs
    have hlm : len ≤ m' := by rw [hmm]; split <;> omega
    have key : ∀ i, i < len → ∃ y : α, G y ∧ ∀ j u, (ev y)[j]? = some u → w.cell? (x.add (i * ks.length + j)) = some u := by
      intro i hi'
      obtain ⟨cs', hc, ht'⟩ := hi i (by omega)
      rw [hC] at hc
      obtain ⟨y, rfl, hy⟩ := hof cs' (leaves_spec m e ks n cs' _ hk ht')
      obtain ⟨_, hcl, hat⟩ := World.cells?_some hc
      refine ⟨y, hy, fun j u hu => ?_⟩
      have hj : j < ks.length := by rw [← hev y]; exact (List.getElem?_eq_some_iff.1 hu).1
      have hcell := hat j (by first | exact hj | (rw [hev]; exact hj))
      rw [← Go.Deep.add_add, hcell, hu]
    have hpick : ∃ l : List α, l.length = len ∧ ∀ i y, l[i]? = some y → G y ∧ ∀ j u, (ev y)[j]? = some u → w.cell? (x.add (i * ks.length + j)) = some u := by
      have : ∀ k, k ≤ len → ∃ l : List α, l.length = k ∧ ∀ i y, l[i]? = some y → G y ∧ ∀ j u, (ev y)[j]? = some u → w.cell? (x.add (i * ks.length + j)) = some u := by
        intro k
        induction k with
        | zero => exact fun _ => ⟨[], rfl, fun i y hy => by simp at hy⟩
        | succ k ih =>
          intro hk'
          obtain ⟨l, hll, hlp⟩ := ih (by omega)
          obtain ⟨y, hy1, hy2⟩ := key k (by omega)
          refine ⟨l ++ [y], by simp [hll], fun i z hz => ?_⟩
          rcases Nat.lt_or_ge i l.length with h1 | h1
          · rw [List.getElem?_append_left h1] at hz
            exact hlp i z hz
          · rw [List.getElem?_append_right h1] at hz
            have hi0 : i - l.length = 0 := by
              have := (List.getElem?_eq_some_iff.1 hz).1
              simp at this
              omega
            rw [hi0] at hz
            simp at hz
            subst hz
            have : i = k := by omega
            subst this
            exact ⟨hy1, hy2⟩
      exact this len (Nat.le_refl _)
    obtain ⟨l, hll, hlp⟩ := hpick
    refine ⟨l, hll, ?_, hm, fun y hy => ?_⟩
    · refine ⟨by rw [flat_len ev ks.length hev, hll], some x, cap, rfl, hl, (fun h => by cases h), fun h0 => ?_⟩
      obtain ⟨y0, hy0⟩ : ∃ y, l[0]? = some y := ⟨l[0]'(by omega), List.getElem?_eq_getElem _⟩
      have h00 : (ev y0)[0]? = some ((ev y0)[0]'(by rw [hev]; exact hpos)) := List.getElem?_eq_getElem _
      have hc := (hlp 0 y0 hy0).2 0 _ h00
      obtain ⟨b, off, sp⟩ := x
      have hsp : sp = none := by simpa [Addr.add] using World.cell?_spot hc
      subst hsp
      refine ⟨b, off, rfl, by simpa [Addr.add] using World.block_lt_of_cell? _ _ hc, fun j u hu => ?_⟩
      have hjl : j < len * ks.length := by
        have := (List.getElem?_eq_some_iff.1 hu).1
        rw [flat_len ev ks.length hev, hll] at this
        exact this
      have hq : j / ks.length < len := Nat.div_lt_of_lt_mul (by rw [Nat.mul_comm]; exact hjl)
      have hr : j % ks.length < ks.length := Nat.mod_lt _ hpos
      have hj : j = (j / ks.length) * ks.length + j % ks.length := by rw [Nat.mul_comm]; exact (Nat.div_add_mod j ks.length).symm
      have hy : l[j / ks.length]? = some (l[j / ks.length]'(by omega)) := List.getElem?_eq_getElem _
      rw [hj, flat_at ev ks.length hev l _ _ _ hy hr] at hu
      have := (hlp _ _ hy).2 _ u hu
      rw [← hj, Addr.add_lit] at this
      exact this
    · obtain ⟨i, hi'⟩ := List.mem_iff_getElem?.1 hy
      exact (hlp i y hi').1
end
end Go.Proofs.YtdpolejbceoldaaDoor
