/-
  A region that draws its order, walked by a plan that is checked once: what only reads is taken first, what a guard shuts out is passed over, a call that is alone ready is run. No condition.
-/
import Derived.Test.YtechagciefhpbaaDoorHeld
namespace Go.Proofs.YtechagciefhpbaaDoor
set_option linter.unusedSimpArgs false
set_option linter.unusedVariables false
set_option linter.unnecessarySimpa false
open Go.RowKit
section
variable {P : Program} {ops : Array Oper} {Q : Exit → Act → World → Prop} {md : Region.Mode} {S : World → Prop}
/-- The plan, operation by operation: (i, true): taken first, or passed over; (i, false): alone ready. -/
def HL (P : Program) (ops : Array Oper) (Q : Exit → Act → World → Prop) (S : World → Prop) : List (Nat × Bool) → Act → World → Prop
  | [], a, w => Q .normal a w
  | (i, true) :: r, a, w => ∃ o, ops[i]? = some o ∧
      ((Region.wanted o (yielded ops a.tmps) = true ∧ ∃ v, (∀ W, S W → (execOp a.eval o).run P W = .ok (.value v) W) ∧ HL P ops Q S r (a.put o.dst v) w) ∨
       (Region.wanted o (yielded ops a.tmps) = false ∧ HL P ops Q S r (a.put o.dst undef) w))
  | (i, false) :: r, a, w => ∃ o, ops[i]? = some o ∧
      ((Region.wanted o (yielded ops a.tmps) = true ∧ ∀ K : Act → World → Prop, Hid (∀ a w, S w → HL P ops Q S r a w → K a w) → o.wp P a w K Q) ∨
       (Region.wanted o (yielded ops a.tmps) = false ∧ HL P ops Q S r (a.put o.dst undef) w))
def planOK (md : Region.Mode) (ops : Array Oper) : List (Nat × Bool) → Array Bool → Bool
  | [], l => (Region.ready md ops l).isEmpty
  | (i, true) :: r, l => Region.free md ops l i && (Region.ready md ops l).contains i && planOK md ops r (l.setIfInBounds i true)
  | (i, false) :: r, l => (Region.ready md ops l == [i]) && planOK md ops r (l.setIfInBounds i true)
theorem HL.sound (hs : Region.noSelect ops = true) (hQ : ∀ c t t' d w, Q (.panic c) ⟨t, d⟩ w → Q (.panic c) ⟨t', d⟩ w) : ∀ (p : List (Nat × Bool)) (l : Array Bool) (a : Act) (w : World), planOK md ops p l = true → S w → HL P ops Q S p a w → wpAnyH P md ops Q S p.length l a w
  | [], l, a, w, hp, hS, h => by
    simp only [planOK, List.isEmpty_iff] at hp
    exact wpAnyH_done hp h _
  | (i, true) :: r, l, a, w, hp, hS, h => by
    simp only [planOK, Bool.and_eq_true] at hp
    obtain ⟨o, ho, ⟨hw, v, hy, h⟩ | ⟨hw, h⟩⟩ := h
    · exact held_take i v ho hs hp.1.1 hp.1.2 hQ hw hS hy (HL.sound hs hQ r _ _ _ hp.2 hS h)
    · exact held_skip i ho hs hp.1.1 hp.1.2 hQ hw hS (HL.sound hs hQ r _ _ _ hp.2 hS h)
  | (i, false) :: r, l, a, w, hp, hS, h => by
    simp only [planOK, Bool.and_eq_true, beq_iff_eq] at hp
    obtain ⟨o, ho, ⟨hw, h⟩ | ⟨hw, h⟩⟩ := h
    · exact held_one i hp.1 ho hw (fun K hK => h K (fun a w hS' h' => hK.out a w hS' (HL.sound hs hQ r _ _ _ hp.2 hS' h')))
    · refine wpAnyH_ready hp.1 (by simp) (AllReadyH.cons ho (fun K hK => ?_) AllReadyH.nil)
      rw [if_neg (by rw [hw]; decide)]
      exact hK _ w hS (fun _ => HL.sound hs hQ r _ _ _ hp.2 hS h)
/-- The beginning. -/
theorem hl_begin {id : Nat} {a : Act} {w : World} (S : World → Prop) (p : List (Nat × Bool)) (hm : P.follows .mixedOrders = true) (hs : Region.noSelect ops = true)
    (hp : planOK .any ops p (Array.replicate ops.size false) = true) (hn : p.length = ops.size) (hQ : ∀ c t t' d w, Q (.panic c) ⟨t, d⟩ w → Q (.panic c) ⟨t', d⟩ w) (hS : S w.drew)
    (h : HL P ops Q S p a w.drew) : (Code.region id ops true).wp P Q a w :=
  held_begin S hm hS (by have := HL.sound hs hQ p _ a _ hp hS h; rw [hn] at this; exact this)
theorem hl_take {i : Nat} {r : List (Nat × Bool)} (v : Value) {o : Oper} {a : Act} {w : World} (hi : ops[i]? = some o) (hw : Region.wanted o (yielded ops a.tmps) = true)
    (hy : ∀ W, S W → (execOp a.eval o).run P W = .ok (.value v) W) (h : HL P ops Q S r (a.put o.dst v) w) : HL P ops Q S ((i, true) :: r) a w := ⟨o, hi, .inl ⟨hw, v, hy, h⟩⟩
theorem hl_skip {i : Nat} {r : List (Nat × Bool)} {o : Oper} {a : Act} {w : World} (hi : ops[i]? = some o) (hw : Region.wanted o (yielded ops a.tmps) = false)
    (h : HL P ops Q S r (a.put o.dst undef) w) : HL P ops Q S ((i, true) :: r) a w := ⟨o, hi, .inr ⟨hw, h⟩⟩
theorem hl_skip1 {i : Nat} {r : List (Nat × Bool)} {o : Oper} {a : Act} {w : World} (hi : ops[i]? = some o) (hw : Region.wanted o (yielded ops a.tmps) = false)
    (h : HL P ops Q S r (a.put o.dst undef) w) : HL P ops Q S ((i, false) :: r) a w := ⟨o, hi, .inr ⟨hw, h⟩⟩
theorem hl_one {i : Nat} {r : List (Nat × Bool)} {o : Oper} {a : Act} {w : World} (hi : ops[i]? = some o) (hw : Region.wanted o (yielded ops a.tmps) = true)
    (h : ∀ K : Act → World → Prop, Hid (∀ a w, S w → HL P ops Q S r a w → K a w) → o.wp P a w K Q) : HL P ops Q S ((i, false) :: r) a w := ⟨o, hi, .inl ⟨hw, h⟩⟩
theorem hl_done {a : Act} {w : World} (h : Q .normal a w) : HL P ops Q S [] a w := h
end
end Go.Proofs.YtechagciefhpbaaDoor
