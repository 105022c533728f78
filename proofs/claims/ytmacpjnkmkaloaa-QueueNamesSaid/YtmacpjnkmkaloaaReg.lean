/-
  Steps of a region that draws its order, one at a time: what is passed over, what yields in whatever world. No condition.
-/
import Derived.Test.YtmacpjnkmkaloaaSep
import Derived.Deep.RegionWith
namespace Go.Proofs.Ytmacpjnkmkaloaa
open Go.RowKit
theorem reg_skip {P : Program} {md : Region.Mode} {ops : Array Oper} {Q : Exit → Act → World → Prop} (i : Nat) {oi : Oper} {fuel : Nat} {listed : Array Bool} {a : Act} {w : World} (hi : ops[i]? = some oi)
    (hs : Region.noSelect ops = true) (hf : Region.free md ops listed i = true) (hr : (Region.ready md ops listed).contains i = true)
    (hQ : ∀ c t t' d w, Q (.panic c) ⟨t, d⟩ w → Q (.panic c) ⟨t', d⟩ w) (hw : Region.wanted oi (yielded ops a.tmps) = false)
    (h : wpAny P md ops Q fuel (listed.setIfInBounds i true) (a.put oi.dst undef) w) : wpAny P md ops Q (fuel + 1) listed a w :=
  wpAny_take hi hs hf hr (fun c a w h => by obtain ⟨t, d⟩ := a; cases hd : oi.dst with
    | none => rw [hd] at h; exact h
    | some k => rw [hd] at h; exact hQ c _ t d w h) (.inr ⟨hw, rfl⟩) h
theorem reg_take {P : Program} {md : Region.Mode} {ops : Array Oper} {Q : Exit → Act → World → Prop} (i : Nat) (v : Value) {oi : Oper} {fuel : Nat} {listed : Array Bool} {a : Act} {w : World} (hi : ops[i]? = some oi)
    (hs : Region.noSelect ops = true) (hf : Region.free md ops listed i = true) (hr : (Region.ready md ops listed).contains i = true)
    (hQ : ∀ c t t' d w, Q (.panic c) ⟨t, d⟩ w → Q (.panic c) ⟨t', d⟩ w) (hw : Region.wanted oi (yielded ops a.tmps) = true)
    (hy : ∀ w, (execOp a.eval oi).run P w = .ok (.value v) w)
    (h : wpAny P md ops Q fuel (listed.setIfInBounds i true) (a.put oi.dst v) w) : wpAny P md ops Q (fuel + 1) listed a w :=
  wpAny_take hi hs hf hr (fun c a w h => by obtain ⟨t, d⟩ := a; cases hd : oi.dst with
    | none => rw [hd] at h; exact h
    | some k => rw [hd] at h; exact hQ c _ t d w h) (.inl ⟨hw, hy⟩) h
end Go.Proofs.Ytmacpjnkmkaloaa
