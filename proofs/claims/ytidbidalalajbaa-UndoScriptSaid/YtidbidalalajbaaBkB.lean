/-
  Back: records get what they had, from the last one on. No condition beside a log and a store that can be read.
-/
import Derived.Test.YtidbidalalajbaaBk
namespace Go.Proofs.Ytidbidalalajbaa
open Go.RowKit Go.Shelf
attribute [local go_sem] Oper.semAt_some
section
variable {w w' : World} {r : Res} {rs : List Res} {D : Nat → Prop} {K V : Type} {ek : K → Value} {ev : V → Value} {p m : Nat} {t : TypeId} {cs : Array Value} {E E' : List (K × V)}
theorem Sep.toD (h : Sep w rs) : SepD w rs (fun b => w.heap.size ≤ b) := (h.out.keep (Keeps.refl _ w)).mono fun _ _ h => .inr h
theorem SepD.toS (h : SepD w rs D) : Sep w rs := ⟨h.mono fun _ _ h => h.elim⟩
theorem sepD_own {β : Type} (B : Nat) (f : β → List Res) : OwnFrom B (fun s W => SepD W (f s) (fun b => B ≤ b)) := fun s W W' row hs hg hr =>
  (hs.keep (Keeps.grown hg fun k e h => h (hr k e).1)).mono fun _ _ h => .inl h
/-- All blocks of W0 but two. -/
def oth (p m : Nat) (W0 : World) : Res where
  at_ A w := (∀ b, A b ↔ (b < W0.heap.size ∧ b ≠ p ∧ b ≠ m)) ∧ Keeps (fun b => b ≠ p ∧ b ≠ m) W0 w
  lt h b hb := Nat.lt_of_lt_of_le ((h.1 b).1 hb).1 h.2.size
  keep h k := ⟨h.1, ⟨k.os.trans h.2.os, k.tape.trans h.2.tape, k.output.trans h.2.output, Nat.le_trans h.2.size k.size, fun b hb hn => (k.block b (Nat.lt_of_lt_of_le hb h.2.size) ((h.1 b).2 ⟨hb, hn⟩)).trans (h.2.block b hb hn)⟩⟩
theorem SepD.oth_in (h : SepD w (blk p t cs :: mapr ek ev m E :: rs) D) : Sep w [blk p t cs, mapr ek ev m E, oth p m w] := by
  obtain ⟨A1, h1, _, A2, k1, k2, _⟩ := h
  refine ⟨A1, h1, fun _ _ h => h, A2, k1, fun b hb h => (h.elim (fun h => h) fun h => k2 b hb (.inr h)), _, ⟨fun _ => Iff.rfl, Keeps.refl _ _⟩, fun b hb h => ?_, trivial⟩
  rcases h with (h | h) | h
  · exact h
  · exact hb.2.1 ((h1.1 b).1 h)
  · exact hb.2.2 ((k1.1 b).1 h)
theorem oth_keeps (h : Sep w' [blk p t cs, mapr ek ev m E', oth p m w]) : Keeps (fun b => b ≠ p ∧ b ≠ m) w w' := by
  obtain ⟨A, h1, _⟩ := h.to2.out
  exact h1.2
theorem SepD.oth_out (h : SepD w (blk p t cs :: mapr ek ev m E :: rs) D) (h' : Sep w' [blk p t cs, mapr ek ev m E', oth p m w]) : SepD w' (blk p t cs :: mapr ek ev m E' :: rs) D := by
  obtain ⟨A1, h1, h2, A2, k1, k2, h3⟩ := h
  obtain ⟨_, c1, _, _, d1, _⟩ := h'.out
  have hk := oth_keeps h'
  refine ⟨A1, ⟨h1.1, c1.2⟩, h2, A2, ⟨k1.1, d1.2⟩, k2, ?_⟩
  exact (h3.keep (hk.mono fun b _ hb => ⟨fun e => hb (.inl (.inr ((h1.1 b).2 e))), fun e => hb (.inr ((k1.1 b).2 e))⟩)).mono fun b _ hb => .inl hb
theorem SepD.two (h : SepD w (blk p t cs :: mapr ek ev m E :: rs) D) : ¬ D p ∧ ¬ D m := by
  obtain ⟨A1, h1, h2, A2, k1, k2, _⟩ := h
  exact ⟨h2 p ((h1.1 p).2 rfl), fun h => k2 m ((k1.1 m).2 rfl) (.inl h)⟩
/-- One block, whatever it holds. -/
def ob (g : Nat) (o : Obj) : Res where
  at_ A w := (∀ b, A b ↔ b = g) ∧ w.heap[g]? = some o
  lt h b hb := by rw [(h.1 b).1 hb]; exact (Array.getElem?_eq_some_iff.1 h.2).1
  keep h k := ⟨h.1, (k.block _ (Array.getElem?_eq_some_iff.1 h.2).1 ((h.1 _).2 rfl)).trans h.2⟩
theorem SepD.ob_in {B g : Nat} {o : Obj} (h : SepD w rs (fun b => B ≤ b)) (hg : B ≤ g) (ho : w.heap[g]? = some o) : Sep w (ob g o :: rs) :=
  ⟨_, ⟨fun _ => Iff.rfl, ho⟩, fun _ _ h => h, h.mono fun b _ hb => hb.elim (fun h => h.elim) (fun e => by have : b = g := e; omega)⟩
theorem Sep.ob_get {g : Nat} {o : Obj} (h : Sep w (ob g o :: rs)) : w.heap[g]? = some o := by
  obtain ⟨A, h1, _⟩ := h.out
  exact h1.2
theorem Sep.ob_put {g : Nat} {o : Obj} (o' : Obj) (h : Sep w (ob g o :: rs)) : Sep (w.putObj g o') rs := by
  obtain ⟨A, h1, h2⟩ := h.open_
  have hlt := (Array.getElem?_eq_some_iff.1 h1.2).1
  exact (h2 (w.putObj g o') (ob g o') A ⟨h1.1, World.putObj_heap_same hlt⟩ (Keeps.grown (grownBy_putObj' w g o') fun k e h => h ((h1.1 k).2 (by cases e; rfl))) (fun _ h => .inl h)).tail
end
def undo1 (E : Ent) (x : Wa) : Ent := if isRec (x.t, x.r) = true then (if x.there = true then putL E (x.t, x.r) x.v else delL E (x.t, x.r)) else E
theorem put_any (p m : Nat) (E : Ent) (x : Wa) (w : World) (rs : List Res) (hS : Sep w (sto p m E rs)) (h : x.there = true) :
    Calls Try.prog 11 #[.pointer (some ⟨p, 0, none⟩), (.agg #[.int .i64 x.t, .int .i64 x.r]), .int .i64 x.v] w fun e w' => (∃ a b, e = .returned (.tuple #[a, b])) ∧ Sep w' (sto p m (undo1 E x) rs) := by
  unfold undo1
  rw [if_pos h]
  cases hr : isRec (x.t, x.r) with
  | true => exact (put_good p m E x.t x.r x.v w rs hS hr).mono fun e w' ⟨he, hs⟩ => ⟨⟨_, _, he⟩, hs⟩
  | false => exact (put_bad p m E x.t x.r x.v w rs hS hr).mono fun e w' ⟨he, hs⟩ => ⟨⟨_, _, he⟩, hs⟩
theorem del_any (p m : Nat) (E : Ent) (x : Wa) (w : World) (rs : List Res) (hS : Sep w (sto p m E rs)) (h : x.there = false) :
    Calls Try.prog 25 #[.pointer (some ⟨p, 0, none⟩), (.agg #[.int .i64 x.t, .int .i64 x.r])] w fun e w' => (∃ a b, e = .returned (.tuple #[a, b])) ∧ Sep w' (sto p m (undo1 E x) rs) := by
  unfold undo1
  rw [h]
  cases hr : isRec (x.t, x.r) with
  | true => exact (del_good p m E x.t x.r w rs hS hr).mono fun e w' ⟨he, hs⟩ => ⟨⟨_, _, he⟩, hs⟩
  | false => exact (del_bad p m E x.t x.r w rs hS hr).mono fun e w' ⟨he, hs⟩ => ⟨⟨_, _, he⟩, hs⟩
def undoP (E : Ent) (pre : List (Int × Wa)) : Ent := (pre.map (·.2)).foldl undo1 E
theorem undoP_snoc (E : Ent) (pre : List (Int × Wa)) (x : Int × Wa) : undoP E (pre ++ [x]) = undo1 (undoP E pre) x.2 := by simp [undoP]
end Go.Proofs.Ytidbidalalajbaa
