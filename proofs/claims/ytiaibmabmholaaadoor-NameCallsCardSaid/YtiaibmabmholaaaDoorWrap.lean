/-
  How a walk is lifted that looks at variables: the statement's own premises give the walk the world's shape and what the listed variables read as. No condition.
-/
import Derived.Test.YtiaibmabmholaaaDoorNmRead
import Derived.ProofKit
import Derived.Lay
import Derived.LaidOnce
import Derived.SevenTiedAt
import Derived.MakeChecks
import Derived.HandedShaped
import Derived.Stop.LaidErr
namespace Go.Proofs.YtiaibmabmholaaaDoor
open Go.RowKit
set_option maxRecDepth 100000 in
/-- From a walk under the world's shape and the listed variables to the statement's form. -/
theorem handed_of {H : Type} {enc : TypeId × Value → H} {os : Os} {f : FuncId} {fn : Func} {s : ChangeSpec} (laid : List (String × DataW Unit)) (hos : os.Started) (ho : ownKnob Tryd.checked.prog.godebug = none) (hi : Tryd.checked.prog.inits.idxOf? f = none) (hf : Tryd.checked.prog.funcs[f]? = some fn)
    (wit : ∃ (w : World) (tape : Tape) (i : Input), w.os = os ∧ (w.forCall tape i).Shaped Tryd.checked.prog ∧ i.vars = [] ∧ Input.okWide Tryd.checked.prog (w.forCall tape i) .any w.heap.size f i ∧
      ((s.pre enc Tryd.checked.prog fn [] false (w.forCall tape i).memory i.args ∧ laidMetH Tryd.checked.prog laid (w.forCall tape i).memory) ∧ sizedMet enc Tryd.checked.prog fn (OpenSpec.ofChange s) false (w.forCall tape i).memory i.args) ∧ ({} : Assume).holds Tryd.checked.prog (lone (Frame.enter Tryd.checked.prog f i.args .normal) [] (w.forCall tape i)))
    (walk : ∀ (W : World) (base : Nat) (args : Array Value) (ds gs : List (DataW H)) (before : List MemPlace),
      (∀ (j : Nat) t v, fn.params[j]? = some t → args[j]? = some v → Value.okWide Tryd.checked.prog W .any base t v) →
      DataW.Whole enc Tryd.checked.prog fn.params.toList s.vars false W args.toList ds gs before → laidMetH Tryd.checked.prog laid W → W.ShapedOpen Tryd.checked.prog →
      Calls Tryd.checked.prog f args W fun e W' => ∃ v, e = .returned v ∧ s.post enc Tryd.checked.prog fn false true false false W args v W') :
    ReturnsInHanded {} Tryd.checked os f .any (fun w args => (s.pre enc Tryd.checked.prog fn [] false w args ∧ laidMetH Tryd.checked.prog laid w) ∧ sizedMet enc Tryd.checked.prog fn (OpenSpec.ofChange s) false w args) (s.post enc Tryd.checked.prog fn false true false false) := by
  refine returnsInHanded_of_calls ho hos hi wit fun w tape i _ sh _ ok pre _ => ?_
  obtain ⟨_, _, _, g, hg, _, _, _, _, okv⟩ := ok
  obtain rfl : g = fn := Option.some.inj (hg.symm.trans hf)
  obtain ⟨⟨⟨ds, gs, b, hw, _⟩, hl⟩, _⟩ := pre
  have k := walk (w.forCall tape i) w.heap.size i.args ds gs b okv (DataW.Whole.of_heap (w' := w.forCall tape i) (by rfl) hw) (hl.of_heap (by rfl)) sh
  exact k.mono fun e W' h => by
    obtain ⟨v, rfl, hp⟩ := h
    exact ChangeSpec.post_blind hp
/-- Where the variables of Read's callees lie. -/
theorem rdW_of {W : World} {a b c : String × DataW Unit} {x y : List UInt8} (sh : W.ShapedOpen Tryd.prog)
    (hl : laidMet Tryd.prog [a, b, c, ("strconv.ErrRange", .iface "*errors.errorString" (.ptr (.agg [.lit (.string x)]))), ("strconv.ErrSyntax", .iface "*errors.errorString" (.ptr (.agg [.lit (.string y)])))] W) : RdW W ∧ 9 < W.heap.size := by
  have row : ∀ u, Tryd.prog.typeName? 3 u = some ("*" ++ "errors.errorString") → u = 97 := fun u h => typeName_ptr_named (by kernel_rfl) (by kernel_rfl) (by decide) u h
  obtain ⟨g1, e1⟩ : ∃ g, Tryd.prog.globalNamed "strconv.ErrSyntax" = some g ∧ (Tryd.prog.globals[g]?).map (·.type) = some 57 := ⟨1, by kernel_rfl, by kernel_rfl⟩
  obtain ⟨g2, e2⟩ : ∃ g, Tryd.prog.globalNamed "strconv.ErrRange" = some g ∧ (Tryd.prog.globals[g]?).map (·.type) = some 57 := ⟨2, by kernel_rfl, by kernel_rfl⟩
  have hl2 := hl.tail.tail.tail
  obtain ⟨p2, _, v2, _⟩ := laid_sentinel hl2 e2.1 e2.2 Tryd.underlying57 (fun u h => row u h) Tryd.underlying97 Tryd.underlying99 rfl rfl Tryd.underlying9 (by kernel_rfl) (by kernel_rfl)
  obtain ⟨p1, _, v1, _⟩ := laid_sentinel hl2.tail e1.1 e1.2 Tryd.underlying57 (fun u h => row u h) Tryd.underlying97 Tryd.underlying99 rfl rfl Tryd.underlying9 (by kernel_rfl) (by kernel_rfl)
  refine ⟨⟨⟨_, _, v1⟩, ⟨_, _, v2⟩, ?_⟩, ?_⟩
  · exact Go.Proofs.cell_of_shapedOpen_int (zero := #[.int .i64 0]) (t := 3) sh (of_decide_eq_true (by kernel_rfl)) (by kernel_rfl) rfl (by kernel_rfl) (by kernel_rfl) Tryd.underlying3
  · obtain ⟨o, _, ho, _⟩ := sh.2 9 (of_decide_eq_true (by kernel_rfl)) (of_decide_eq_true (by kernel_rfl))
    exact Nat.lt_of_not_le fun h => by rw [Array.getElem?_eq_none h] at ho; cases ho
end Go.Proofs.YtiaibmabmholaaaDoor
