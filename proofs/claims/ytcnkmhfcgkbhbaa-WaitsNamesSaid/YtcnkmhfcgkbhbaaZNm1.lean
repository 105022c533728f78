/-
  Contracts and plain laws that the walk leans on, part 1. No condition.
-/
import Derived.Test.YtcnkmhfcgkbhbaaRows
import Derived.WalkKit
import Derived.WalkSpells
import Derived.Deep.QuietTactic
import Derived.BigQuiet
import Derived.StillTailTactics
import Derived.Lib.Hide
import Derived.Maps.AppendAt
import Derived.Laws.OwnMore
import Derived.Shelf.SlSortCmp.Whole1
import Derived.Shelf.SlSortCmp.WholeK
import Derived.Shelf.SlSortCmp.NoneTotal
import Derived.Deep.RegionHeld
namespace Go.Proofs.Ytcnkmhfcgkbhbaa
set_option linter.unusedSimpArgs false
set_option linter.unusedVariables false
set_option linter.unnecessarySimpa false
open Go.RowKit

/-- Block g is just the cells cs of element type t, none frozen. -/
def Blk (w : World) (g : Nat) (t : TypeId) (cs : Array Value) : Prop := w.heap[g]? = some (.cells cs t (0, 0))
section
variable {w w' : World} {g : Nat} {t : TypeId} {cs : Array Value}
theorem Blk.lt (h : Blk w g t cs) : g < w.heap.size := by
  rcases Nat.lt_or_ge g w.heap.size with hlt | hge
  · exact hlt
  · unfold Blk at h; rw [Array.getElem?_eq_none hge] at h; cases h
theorem Blk.cell (h : Blk w g t cs) (i : Nat) : w.cell? ⟨g, i, none⟩ = cs[i]? := cell_of_row w g i cs t (0, 0) h
theorem Blk.frozen (h : Blk w g t cs) (i : Nat) : w.frozen? ⟨g, i, none⟩ = false := by
  unfold Blk at h
  simp [World.frozen?, h]
theorem Blk.new (w : World) (t : TypeId) (cs : Array Value) : Blk (w.alloc (.cells cs t)) w.heap.size t cs := heap_alloc_new w _
theorem Blk.drew (h : Blk w g t cs) : Blk w.drew g t cs := h
theorem Blk.drewN (h : Blk w g t cs) (n : Nat) : Blk (w.drewN n) g t cs := h
theorem Blk.alloc (h : Blk w g t cs) (o : Obj) : Blk (w.alloc o) g t cs := (Below.heap_alloc w o g h.lt).trans h
theorem Blk.set_ (h : Blk w g t cs) (i : Nat) (u : Value) : Blk (w.setCell ⟨g, i, none⟩ u) g t (cs.setIfInBounds i u) := by
  unfold Blk at h ⊢
  simp [World.setCell, Array.getElem?_modify, h]
theorem Blk.below {B : Nat} (h : Blk w g t cs) (hb : Below B w w') (hg : g < B) : Blk w' g t cs := (hb.block g hg).trans h
theorem Blk.grown {row : Option Nat} (h : Blk w g t cs) (hb : w.grownBy w' row) (hg : some g ≠ row) : Blk w' g t cs := (hb.block g h.lt hg).trans h
end

theorem Blk.below' {w w' : World} {g : Nat} {t : TypeId} {cs : Array Value} (h : Blk w g t cs) (hb : Below w.heap.size w w') : Blk w' g t cs := h.below hb h.lt
theorem own_slice {w : World} {base : Nat} {e : TypeId} {size n : Nat} {v : Value} {xs : List Value} (h : w.ownsRow base e size v n xs) : ∃ a cap, v = .slice a n cap := by
  rcases h.2 with ⟨rfl, rfl⟩ | ⟨g, cap, cur, rfl, _⟩
  · exact ⟨none, 0, rfl⟩
  · exact ⟨_, cap, rfl⟩
theorem own_cells {w : World} {base : Nat} {e : TypeId} {n : Nat} {a : Option Addr} {c : Nat} {xs : List Value} (h : w.ownsRow base e 1 (.slice a n c) n xs) (hn : 0 < n) : ∃ g, a = some ⟨g, 0, none⟩ ∧ base ≤ g ∧ g < w.heap.size ∧ ∀ j (hj : j < xs.length), w.cell? ⟨g, j, none⟩ = some xs[j] := by
  rcases h.2 with ⟨h1, h2⟩ | ⟨g, cap, cur, h1, hb, hg, hnc, hcm, hcs, htake⟩
  · omega
  · injection h1 with h1 _ _
    subst h1
    refine ⟨g, rfl, hb, (Array.getElem?_eq_some_iff.1 hg).1, fun j hj => ?_⟩
    rw [cell_of_row w g j cur e (0, 0) hg]
    subst htake
    simp only [List.length_take] at hj
    rw [List.getElem_take, ← Array.getElem?_toList, List.getElem?_eq_getElem (by omega)]

/-- The value v is a slice of int that reads as xs. -/
def RI (w : World) (v : Value) (xs : List Int) : Prop :=
  ∃ a c, v = .slice a xs.length c ∧ (0 < xs.length → ∃ b off, a = some ⟨b, off, none⟩ ∧ b < w.heap.size ∧ ∀ j (_h : j < xs.length), w.cell? ⟨b, off + j, none⟩ = some (.int .i64 (xs.getD j 0)))
theorem RI.below {w w' : World} {v : Value} {xs : List Int} (h : RI w v xs) (hb : Below w.heap.size w w') : RI w' v xs := by
  obtain ⟨a, c, hv, hr⟩ := h
  refine ⟨a, c, hv, fun h0 => ?_⟩
  obtain ⟨b, off, ha, hlt, hc⟩ := hr h0
  exact ⟨b, off, ha, Nat.lt_of_lt_of_le hlt hb.size, fun j hj => (hb.cell (p := ⟨b, off + j, none⟩) hlt).trans (hc j hj)⟩
theorem RI.of_own {w : World} {base : Nat} {v : Value} {n : Nat} {xs : List Int} (h : w.ownsRow base 3 1 v n (xs.map (Value.int .i64))) : RI w v xs := by
  obtain ⟨a, c, rfl⟩ := own_slice h
  have hn : n = xs.length := by have := h.1; simp at this; omega
  subst hn
  refine ⟨a, c, rfl, fun h0 => ?_⟩
  obtain ⟨g, ha, _, hlt, hc⟩ := own_cells h h0
  refine ⟨g, 0, ha, hlt, fun j hj => ?_⟩
  have := hc j (by simpa using hj)
  rw [Nat.zero_add, this]
  simp [List.getD, hj]

theorem info_int : (Try.prog.info? 3).map (fun i => (i.zero, i.size, i.bytes)) = some (some (.int .i64 0), 1, 8) := by kernel_rfl
end Go.Proofs.Ytcnkmhfcgkbhbaa
namespace Go.Proofs.Ytcnkmhfcgkbhbaa
set_option linter.unusedSimpArgs false
set_option linter.unusedVariables false
set_option linter.unnecessarySimpa false
open Go.RowKit

/-- Blocks of A that were there are as they were. -/
structure Keeps (A : Nat → Prop) (w w' : World) : Prop where
  os : w'.os = w.os
  tape : w'.tape = w.tape
  output : w'.output = w.output
  size : w.heap.size ≤ w'.heap.size
  block : ∀ b, b < w.heap.size → A b → w'.heap[b]? = w.heap[b]?
theorem Keeps.refl (A : Nat → Prop) (w : World) : Keeps A w w := ⟨rfl, rfl, rfl, Nat.le_refl _, fun _ _ _ => rfl⟩
theorem Keeps.mono {A B : Nat → Prop} {w w' : World} (h : Keeps A w w') (hb : ∀ b, b < w.heap.size → B b → A b) : Keeps B w w' := ⟨h.os, h.tape, h.output, h.size, fun b h1 h2 => h.block b h1 (hb b h1 h2)⟩
theorem Keeps.trans {A : Nat → Prop} {a b c : World} (h : Keeps A a b) (k : Keeps A b c) : Keeps A a c :=
  ⟨k.os.trans h.os, k.tape.trans h.tape, k.output.trans h.output, Nat.le_trans h.size k.size, fun i h1 h2 => (k.block i (Nat.lt_of_lt_of_le h1 h.size) h2).trans (h.block i h1 h2)⟩
theorem Keeps.below {A : Nat → Prop} {w w' : World} (h : Below w.heap.size w w') : Keeps A w w' := ⟨h.os, h.tape, h.output, h.size, fun b h1 _ => h.block b h1⟩
theorem Keeps.drewN {A : Nat → Prop} (w : World) (n : Nat) : Keeps A w (w.drewN n) := ⟨rfl, rfl, rfl, Nat.le_refl _, fun _ _ _ => rfl⟩
theorem Keeps.drew {A : Nat → Prop} (w : World) : Keeps A w w.drew := ⟨rfl, rfl, rfl, Nat.le_refl _, fun _ _ _ => rfl⟩
theorem Keeps.alloc {A : Nat → Prop} (w : World) (o : Obj) : Keeps A w (w.alloc o) := ⟨rfl, rfl, rfl, by simp, fun b h1 _ => Below.heap_alloc w o b h1⟩
theorem Keeps.setCell {A : Nat → Prop} (w : World) (p : Addr) (v : Value) (h : ¬ A p.block) : Keeps A w (w.setCell p v) :=
  ⟨rfl, rfl, rfl, by simp [World.setCell], fun b _ h2 => Below.heap_setCell w p v b (fun e => h (e ▸ h2))⟩
theorem Keeps.grown {A : Nat → Prop} {w w' : World} {row : Option Nat} (h : w.grownBy w' row) (hr : ∀ k, row = some k → ¬ A k) : Keeps A w w' :=
  ⟨h.os, h.tape, h.output, h.size, fun b h1 h2 => h.block b h1 (fun e => hr b e.symm h2)⟩

/-- A part of memory: the blocks A are it. -/
structure Res where
  at_ : (Nat → Prop) → World → Prop
  lt : ∀ {A w}, at_ A w → ∀ b, A b → b < w.heap.size
  keep : ∀ {A w w'}, at_ A w → Keeps A w w' → at_ A w'

def SepD (w : World) : List Res → (Nat → Prop) → Prop
  | [], _ => True
  | r :: rs, D => ∃ A, r.at_ A w ∧ (∀ b, A b → ¬ D b) ∧ SepD w rs (fun b => D b ∨ A b)

theorem SepD.mono {w : World} : ∀ {rs : List Res} {D E : Nat → Prop}, SepD w rs D → (∀ b, b < w.heap.size → E b → D b) → SepD w rs E
  | [], _, _, _, _ => trivial
  | r :: _, _, _, ⟨A, h1, h2, h3⟩, he => ⟨A, h1, fun b ha hb => h2 b ha (he b (r.lt h1 b ha) hb), h3.mono (fun b hl hb => hb.elim (fun h => .inl (he b hl h)) .inr)⟩
theorem SepD.keep {w w' : World} : ∀ {rs : List Res} {D : Nat → Prop}, SepD w rs D → Keeps (fun b => ¬ D b) w w' → SepD w' rs (fun b => D b ∨ w.heap.size ≤ b)
  | [], _, _, _ => trivial
  | r :: rs, D, ⟨A, h1, h2, h3⟩, hk => by
    refine ⟨A, r.keep h1 (hk.mono fun b _ => h2 b), fun b ha hb => hb.elim (h2 b ha) (fun h => by have := r.lt h1 b ha; omega), ?_⟩
    have := SepD.keep (rs := rs) h3 (w' := w') (hk.mono fun b _ hb h => hb (.inl h))
    exact this.mono (fun b _ hb => hb.elim (fun h => h.elim (fun h => .inl (.inl h)) .inr) (fun h => .inl (.inr h)))
theorem SepD.swap {w : World} {r s : Res} {rs : List Res} {D : Nat → Prop} (h : SepD w (r :: s :: rs) D) : SepD w (s :: r :: rs) D := by
  obtain ⟨A, a1, a2, B, b1, b2, h3⟩ := h
  exact ⟨B, b1, fun b hb hd => b2 b hb (.inl hd), A, a1, fun b ha hd => hd.elim (a2 b ha) (fun hb => b2 b hb (.inr ha)), h3.mono (fun b _ hb => hb.elim (fun h => h.elim (fun h => .inl (.inl h)) .inr) (fun h => .inl (.inr h)))⟩
theorem SepD.cons {w : World} {r : Res} {rs rs' : List Res} {D : Nat → Prop} (f : ∀ D, SepD w rs D → SepD w rs' D) (h : SepD w (r :: rs) D) : SepD w (r :: rs') D := by
  obtain ⟨A, a1, a2, h3⟩ := h
  exact ⟨A, a1, a2, f _ h3⟩
theorem SepD.perm {w : World} {rs rs' : List Res} (h : rs.Perm rs') : ∀ {D : Nat → Prop}, SepD w rs D → SepD w rs' D := by
  induction h with
  | nil => exact fun h => h
  | cons x _ ih => exact fun h => SepD.cons (fun _ => ih) h
  | swap x y l => exact fun h => SepD.swap h
  | trans _ _ i1 i2 => exact fun h => i2 (i1 h)

/-- Parts that share no block. -/
structure Sep (w : World) (rs : List Res) : Prop where
  out : SepD w rs (fun _ => False)
section
variable {w w' : World} {r r' s t u v x y z : Res} {rs : List Res}
theorem Sep.nil (w : World) : Sep w [] := ⟨trivial⟩
theorem Sep.perm {rs'} (h : Sep w rs) (hp : rs.Perm rs') : Sep w rs' := ⟨SepD.perm hp h.out⟩
theorem Sep.bring (i : Nat) (h : Sep w rs) (hi : rs[i]? = some r) : Sep w (r :: rs.eraseIdx i) := by
  refine h.perm ?_
  clear h
  induction rs generalizing i with
  | nil => simp at hi
  | cons a l ih =>
    cases i with
    | zero => simp at hi; subst hi; exact List.Perm.refl _
    | succ i => exact ((ih i (by simpa using hi)).cons a).trans (List.Perm.swap _ _ _)
theorem Sep.to1 (h : Sep w (r :: s :: rs)) : Sep w (s :: r :: rs) := h.bring 1 rfl
theorem Sep.to2 (h : Sep w (r :: s :: t :: rs)) : Sep w (t :: r :: s :: rs) := h.bring 2 rfl
theorem Sep.to3 (h : Sep w (r :: s :: t :: u :: rs)) : Sep w (u :: r :: s :: t :: rs) := h.bring 3 rfl
theorem Sep.tail (h : Sep w (r :: rs)) : Sep w rs := by
  obtain ⟨A, h1, h2, h3⟩ := h.out
  exact ⟨h3.mono fun _ _ h => .inl h⟩
theorem Sep.kept (h : Sep w rs) (hk : Keeps (fun _ => True) w w') : Sep w' rs := ⟨(h.out.keep (hk.mono fun _ _ _ => trivial)).mono fun _ _ h => .inl h⟩
theorem Sep.below (h : Sep w rs) (hb : Below w.heap.size w w') : Sep w' rs := h.kept (Keeps.below hb)
theorem Sep.drewN (h : Sep w rs) (n : Nat) : Sep (w.drewN n) rs := h.kept (Keeps.drewN w n)
theorem Sep.drew (h : Sep w rs) : Sep w.drew rs := h.kept (Keeps.drew w)
theorem Sep.allocG (h : Sep w rs) (o : Obj) : Sep (w.alloc o) rs := h.kept (Keeps.alloc w o)
/-- What the first part is, and how to put another one in its place. -/
theorem Sep.open_ (h : Sep w (r :: rs)) : ∃ A, r.at_ A w ∧ ∀ w' r' A', r'.at_ A' w' → Keeps (fun b => ¬ A b) w w' → (∀ b, A' b → A b ∨ w.heap.size ≤ b) → Sep w' (r' :: rs) := by
  obtain ⟨A, h1, h2, h3⟩ := h.out
  refine ⟨A, h1, fun w' r' A' k1 k2 k3 => ⟨A', k1, fun _ _ h => h, ?_⟩⟩
  have := h3.keep (w' := w') (k2.mono fun b _ hb h => hb (.inr h))
  exact this.mono fun b _ hb => hb.elim False.elim fun h => (k3 b h).elim (fun h => .inl (.inr h)) .inr
theorem Sep.new {A : Nat → Prop} (h : Sep w rs) (hr : r.at_ A w') (hk : Keeps (fun _ => True) w w') (ha : ∀ b, A b → w.heap.size ≤ b) : Sep w' (r :: rs) := by
  refine ⟨A, hr, fun _ _ h => h, ?_⟩
  have := h.out.keep (w' := w') (hk.mono fun _ _ _ => trivial)
  exact this.mono fun b _ hb => hb.elim False.elim fun h => .inr (ha b h)
end

/-- Parts that are not wanted any more fall away. -/
theorem Sep.drop1 {w : World} {r s : Res} {rs : List Res} (h : Sep w (r :: s :: rs)) : Sep w (r :: rs) := h.to1.tail
theorem Sep.drop2 {w : World} {r s t : Res} {rs : List Res} (h : Sep w (r :: s :: t :: rs)) : Sep w (r :: s :: rs) := h.to2.tail
/-- What was there at the start. -/
def old (w0 : World) : Res where
  at_ A w := (∀ b, A b ↔ b < w0.heap.size) ∧ Below w0.heap.size w0 w
  lt h b hb := Nat.lt_of_lt_of_le ((h.1 b).1 hb) h.2.size
  keep h k := ⟨h.1, h.2.trans ⟨k.os, k.tape, k.output, k.size, fun b hb => k.block b (Nat.lt_of_lt_of_le hb h.2.size) ((h.1 b).2 hb)⟩⟩
theorem Sep.start (w : World) : Sep w [old w] := ⟨_, ⟨fun _ => Iff.rfl, Below.refl _ _⟩, fun _ _ h => h, trivial⟩
theorem Sep.gold {w w0 : World} {rs : List Res} (h : Sep w (old w0 :: rs)) : Below w0.heap.size w0 w := by
  obtain ⟨A, h1, _⟩ := h.out
  exact h1.2

/-- What is new beside what was there, beside parts of what was there. -/
theorem Sep.graft {w w' : World} {r : Res} {rs : List Res} (h : Sep w' [r, old w]) (k : Sep w rs) : Sep w' (r :: rs) := by
  obtain ⟨A, h1, _, B, ⟨hB, hb⟩, h2, _⟩ := h.out
  refine ⟨A, h1, fun _ _ h => h, ?_⟩
  have := k.out.keep (w' := w') (Keeps.below hb)
  exact this.mono fun b _ hb' => hb'.elim False.elim fun ha => .inr (by
    rcases Nat.lt_or_ge b w.heap.size with hlt | hge
    · exact absurd (Or.inr ha) (h2 b ((hB b).2 hlt))
    · exact hge)

/-- A block known whole. -/
def blk (g : Nat) (t : TypeId) (cs : Array Value) : Res where
  at_ A w := (∀ b, A b ↔ b = g) ∧ Blk w g t cs
  lt h b hb := ((h.1 b).1 hb) ▸ h.2.lt
  keep h k := ⟨h.1, (k.block _ h.2.lt ((h.1 _).2 rfl)).trans h.2⟩
section
variable {w w' : World} {g : Nat} {t : TypeId} {cs : Array Value} {rs : List Res}
theorem Sep.gblk (h : Sep w (blk g t cs :: rs)) : Blk w g t cs := by
  obtain ⟨A, h1, _⟩ := h.out
  exact h1.2
theorem Sep.blk_ne {g' : Nat} {t' : TypeId} {cs' : Array Value} (h : Sep w (blk g t cs :: blk g' t' cs' :: rs)) : g ≠ g' := by
  obtain ⟨A, h1, _, B, h2, h3, _⟩ := h.out
  rintro rfl
  exact h3 g ((h2.1 g).2 rfl) (.inr ((h1.1 g).2 rfl))
theorem Sep.set (h : Sep w (blk g t cs :: rs)) (i : Nat) (v : Value) : Sep (w.setCell ⟨g, i, none⟩ v) (blk g t (cs.setIfInBounds i v) :: rs) := by
  obtain ⟨A, h1, h2⟩ := h.open_
  exact h2 _ _ A ⟨h1.1, h1.2.set_ i v⟩ (Keeps.setCell _ _ _ (fun h => h ((h1.1 _).2 rfl))) (fun _ => .inl)
theorem Sep.b1 {x0 : Value} (h : Sep w (blk g t #[x0] :: rs)) : g < w.heap.size ∧ w.cell? ⟨g, 0, none⟩ = some x0 ∧ w.frozen? ⟨g, 0, none⟩ = false := ⟨h.gblk.lt, h.gblk.cell 0, h.gblk.frozen 0⟩
theorem Sep.b2 {x0 x1 : Value} (h : Sep w (blk g t #[x0, x1] :: rs)) : g < w.heap.size ∧ w.cell? ⟨g, 0, none⟩ = some x0 ∧ w.cell? ⟨g, 1, none⟩ = some x1 ∧ w.frozen? ⟨g, 0, none⟩ = false ∧ w.frozen? ⟨g, 1, none⟩ = false := ⟨h.gblk.lt, h.gblk.cell 0, h.gblk.cell 1, h.gblk.frozen 0, h.gblk.frozen 1⟩
theorem Sep.b3 {x0 x1 x2 : Value} (h : Sep w (blk g t #[x0, x1, x2] :: rs)) : g < w.heap.size ∧ w.cell? ⟨g, 0, none⟩ = some x0 ∧ w.cell? ⟨g, 1, none⟩ = some x1 ∧ w.cell? ⟨g, 2, none⟩ = some x2 ∧ w.frozen? ⟨g, 0, none⟩ = false ∧ w.frozen? ⟨g, 1, none⟩ = false ∧ w.frozen? ⟨g, 2, none⟩ = false := ⟨h.gblk.lt, h.gblk.cell 0, h.gblk.cell 1, h.gblk.cell 2, h.gblk.frozen 0, h.gblk.frozen 1, h.gblk.frozen 2⟩
theorem Sep.b4 {x0 x1 x2 x3 : Value} (h : Sep w (blk g t #[x0, x1, x2, x3] :: rs)) : g < w.heap.size ∧ w.cell? ⟨g, 0, none⟩ = some x0 ∧ w.cell? ⟨g, 1, none⟩ = some x1 ∧ w.cell? ⟨g, 2, none⟩ = some x2 ∧ w.cell? ⟨g, 3, none⟩ = some x3 ∧ w.frozen? ⟨g, 0, none⟩ = false ∧ w.frozen? ⟨g, 1, none⟩ = false ∧ w.frozen? ⟨g, 2, none⟩ = false ∧ w.frozen? ⟨g, 3, none⟩ = false := ⟨h.gblk.lt, h.gblk.cell 0, h.gblk.cell 1, h.gblk.cell 2, h.gblk.cell 3, h.gblk.frozen 0, h.gblk.frozen 1, h.gblk.frozen 2, h.gblk.frozen 3⟩
theorem Sep.b5 {x0 x1 x2 x3 x4 : Value} (h : Sep w (blk g t #[x0, x1, x2, x3, x4] :: rs)) : g < w.heap.size ∧ w.cell? ⟨g, 0, none⟩ = some x0 ∧ w.cell? ⟨g, 1, none⟩ = some x1 ∧ w.cell? ⟨g, 2, none⟩ = some x2 ∧ w.cell? ⟨g, 3, none⟩ = some x3 ∧ w.cell? ⟨g, 4, none⟩ = some x4 ∧ w.frozen? ⟨g, 0, none⟩ = false ∧ w.frozen? ⟨g, 1, none⟩ = false ∧ w.frozen? ⟨g, 2, none⟩ = false ∧ w.frozen? ⟨g, 3, none⟩ = false ∧ w.frozen? ⟨g, 4, none⟩ = false := ⟨h.gblk.lt, h.gblk.cell 0, h.gblk.cell 1, h.gblk.cell 2, h.gblk.cell 3, h.gblk.cell 4, h.gblk.frozen 0, h.gblk.frozen 1, h.gblk.frozen 2, h.gblk.frozen 3, h.gblk.frozen 4⟩
theorem Sep.alloc (h : Sep w rs) (cs : Array Value) (t : TypeId) : Sep (w.alloc (.cells cs t)) (blk w.heap.size t cs :: rs) :=
  h.new (A := fun b => b = w.heap.size) ⟨fun _ => Iff.rfl, Blk.new w t cs⟩ (Keeps.alloc w _) (fun b hb => by omega)
end

/-- A slice of the call's own. -/
def vec (e : TypeId) (size : Nat) (v : Value) (n : Nat) (xs : List Value) : Res where
  at_ A w := (∀ b, A b ↔ v.ownBlock = some b) ∧ w.ownsRow 0 e size v n xs
  lt h b hb := (h.2.lt b ((h.1 b).1 hb)).2
  keep {A w w'} h k := by
    refine ⟨h.1, h.2.1, ?_⟩
    rcases h.2.2 with hn | ⟨g, cap, cur, rfl, hb, hg, rest⟩
    · exact .inl hn
    · refine .inr ⟨g, cap, cur, rfl, hb, ?_, rest⟩
      rw [k.block g (Array.getElem?_eq_some_iff.1 hg).1 ((h.1 g).2 rfl)]
      exact hg
section
variable {w w' : World} {e : TypeId} {size n : Nat} {v : Value} {xs : List Value} {rs : List Res}
theorem Sep.gvec (h : Sep w (vec e size v n xs :: rs)) : w.ownsRow 0 e size v n xs := by
  obtain ⟨A, h1, _⟩ := h.out
  exact h1.2
theorem Sep.vec_nil (h : Sep w rs) (e : TypeId) (size : Nat) : Sep w (vec e size (.slice none 0 0) 0 [] :: rs) :=
  h.new (A := fun _ => False) ⟨fun b => by simp [Value.ownBlock], World.ownsRow_nil _ _ _ _⟩ (Keeps.refl _ _) (fun b hb => hb.elim)
theorem Sep.vec_put {v' : Value} {n' : Nat} {xs' : List Value} (h : Sep w (vec e size v n xs :: rs)) (ho : w'.ownsRow 0 e size v' n' xs') (hg : w.grownBy w' v.ownBlock) (hb : v'.ownBlock = v.ownBlock ∨ v'.ownBlock = some w.heap.size) :
    Sep w' (vec e size v' n' xs' :: rs) := by
  obtain ⟨A, h1, h2⟩ := h.open_
  refine h2 _ _ (fun b => v'.ownBlock = some b) ⟨fun _ => Iff.rfl, ho⟩ (Keeps.grown hg fun k hk hA => hA ((h1.1 k).2 hk)) (fun b hb' => ?_)
  rcases hb with hb | hb
  · exact .inl ((h1.1 b).2 (hb ▸ hb'))
  · rw [hb] at hb'; injection hb' with hb'; exact .inr (by omega)
theorem Sep.vec_new {v' : Value} {n' : Nat} {xs' : List Value} (h : Sep w rs) (ho : w'.ownsRow w.heap.size e size v' n' xs') (hb : Below w.heap.size w w') : Sep w' (vec e size v' n' xs' :: rs) := by
  refine h.new (A := fun b => v'.ownBlock = some b) ⟨fun _ => Iff.rfl, ho.1, ?_⟩ (Keeps.below hb) (fun b hb' => (ho.lt b hb').1)
  rcases ho.2 with hn | ⟨g, cap, cur, hv, _, rest⟩
  · exact .inl hn
  · exact .inr ⟨g, cap, cur, hv, Nat.zero_le _, rest⟩
/-- The slice as a block. -/
theorem Sep.vec_blk {g c : Nat} (h : Sep w (vec e size (.slice (some ⟨g, 0, none⟩) n c) n xs :: rs)) : ∃ cur : Array Value, Sep w (blk g e cur :: rs) ∧ n ≤ c ∧ c ≤ maxLen ∧ cur.size = c * size ∧ cur.toList.take (n * size) = xs := by
  obtain ⟨A, h1, h2⟩ := h.open_
  rcases h1.2.2 with ⟨hv, _⟩ | ⟨g', cap, cur, hv, _, hg, hnc, hcm, hcs, ht⟩
  · cases hv
  · injection hv with e1 e2 e3
    injection e1 with e1
    injection e1 with e1
    subst e1 e3
    exact ⟨cur, h2 w _ A ⟨fun b => by rw [h1.1]; simp [Value.ownBlock, eq_comm], hg⟩ (Keeps.refl _ _) (fun _ => .inl), hnc, hcm, hcs, ht⟩
theorem Sep.blk_vec {g c : Nat} {cur : Array Value} (h : Sep w (blk g e cur :: rs)) (hl : xs.length = n * size) (hnc : n ≤ c) (hcm : c ≤ maxLen) (hcs : cur.size = c * size) (ht : cur.toList.take (n * size) = xs) :
    Sep w (vec e size (.slice (some ⟨g, 0, none⟩) n c) n xs :: rs) := by
  obtain ⟨A, h1, h2⟩ := h.open_
  exact h2 w _ A ⟨fun b => by rw [h1.1]; simp [Value.ownBlock, eq_comm], hl, .inr ⟨g, c, cur, rfl, Nat.zero_le _, h1.2, hnc, hcm, hcs, ht⟩⟩ (Keeps.refl _ _) (fun _ => .inl)
theorem Sep.vec_set {g c k : Nat} (h : Sep w (vec e size (.slice (some ⟨g, 0, none⟩) n c) n xs :: rs)) (_hk : k < xs.length) (u : Value) : Sep (w.setCell ⟨g, k, none⟩ u) (vec e size (.slice (some ⟨g, 0, none⟩) n c) n (xs.set k u) :: rs) := by
  have hl := h.gvec.1
  obtain ⟨cur, hS, hnc, hcm, hcs, ht⟩ := h.vec_blk
  refine (hS.set k u).blk_vec (by simpa using hl) hnc hcm (by simpa using hcs) ?_
  rw [Array.toList_setIfInBounds, List.take_set, ht]
theorem Sep.vec_shrink {g c k : Nat} (h : Sep w (vec e size (.slice (some ⟨g, 0, none⟩) n c) n xs :: rs)) (hk : k ≤ n) : Sep w (vec e size (.slice (some ⟨g, 0, none⟩) k c) k (xs.take (k * size)) :: rs) := by
  have hl := h.gvec.1
  obtain ⟨cur, hS, hnc, hcm, hcs, ht⟩ := h.vec_blk
  have hkn : k * size ≤ n * size := Nat.mul_le_mul_right _ hk
  refine hS.blk_vec (by rw [List.length_take, hl]; omega) (by omega) hcm hcs ?_
  rw [← ht, List.take_take, Nat.min_eq_left hkn]
theorem Sep.vec_cell {g c k : Nat} (h : Sep w (vec e size (.slice (some ⟨g, 0, none⟩) n c) n xs :: rs)) {u : Value} (hk : xs[k]? = some u) : w.cell? ⟨g, k, none⟩ = some u ∧ w.frozen? ⟨g, k, none⟩ = false ∧ g < w.heap.size := by
  obtain ⟨cur, hS, hnc, hcm, hcs, ht⟩ := h.vec_blk
  refine ⟨?_, hS.gblk.frozen k, hS.gblk.lt⟩
  have := h.gvec.cells (g := g) rfl k u hk
  rw [Addr.add_lit, Nat.zero_add] at this
  exact this
/-- What is appended: nothing, or cells behind an address. -/
def SrcA (w : World) (size : Nat) (x : Value) (m : Nat) (news : List Value) : Prop :=
  (x = .slice none 0 0 ∧ m = 0 ∧ news = []) ∨ (∃ ad c, x = .slice (some ad) m c ∧ news.length = m * size ∧ (∀ j u, news[j]? = some u → w.cell? (ad.add j) = some u))
theorem SrcA.one (w : World) (x : Value) (t : TypeId) (c : Nat) : SrcA (w.alloc (.cells #[x] t)) 1 (.slice (some ⟨w.heap.size, 0, none⟩) 1 c) 1 [x] := .inr ⟨_, _, rfl, rfl, cell_one_new w x t⟩
theorem SrcA.below {x : Value} {m : Nat} {news : List Value} (h : SrcA w size x m news) (hb : Below w.heap.size w w') : SrcA w' size x m news := by
  rcases h with h | ⟨ad, c, hx, hl, hc⟩
  · exact .inl h
  · refine .inr ⟨ad, c, hx, hl, fun j u hu => ?_⟩
    have h1 := hc j u hu
    have h2 := World.block_lt_of_cell? _ _ h1
    exact (hb.cell (p := ad.add j) h2).trans h1
theorem SrcA.own {b2 : Nat} {x : Value} {m : Nat} {news : List Value} (h2 : w.ownsRow b2 e size x m news) : SrcA w size x m news := by
  rcases h2.2 with ⟨rfl, rfl⟩ | ⟨g, cap, cur, rfl, _, hg, hnc, _⟩
  · have hn : news = [] := List.eq_nil_of_length_eq_zero (by have := h2.1; simpa using this)
    subst hn
    exact .inl ⟨rfl, rfl, rfl⟩
  · exact .inr ⟨_, _, rfl, h2.1, fun j u hu => h2.cells (g := g) rfl j u hu⟩
theorem run_append_sep {P : Program} (hS : Sep w (vec e size v n xs :: rs)) (t ty : TypeId)
    (i : TypeInfo) (z : Value) (bytes : Nat) (ht : P.underlying t = some (.slice e)) (hi : P.info? e = some i) (hz : i.zero = some z)
    (hsize : i.size = size) (hby : i.bytes = bytes) (hzs : z.cells.size = size) (hsz : 0 < size)
    (x : Value) (m : Nat) (news : List Value) (hx : SrcA w size x m news) (h1 : ∀ u ∈ news, u.oneCell' = true)
    (h63 : n + m ≤ maxLen) (hbytes : (n + m) * bytes ≤ 140737488355328) :
    ∃ (a' : Option Addr) (c' : Nat) (w' : World), (Builtin.append_ #[t, t] ty #[v, x]).run P w = .ok (.slice a' (n + m) c') w' ∧ Sep w' (vec e size (.slice a' (n + m) c') (n + m) (xs ++ news) :: rs) := by
  rcases hx with ⟨rfl, rfl, rfl⟩ | ⟨ad, c, rfl, hl, hnews⟩
  · obtain ⟨a', c', rfl⟩ := own_slice hS.gvec
    exact ⟨a', c', w, run_append_owned_none (P := P) w 0 t ty e i size ht hi _ n xs hS.gvec, by simpa using hS⟩
  · obtain ⟨v', w', hr, k1, k2, _, k4⟩ := run_append_own_at (P := P) w 0 t ty e i z size bytes ht hi hz hsize hby hzs hsz v n xs hS.gvec ad m c news hl hnews h1 h63 hbytes (Nat.zero_le _)
    obtain ⟨a', c', rfl⟩ := own_slice k1
    exact ⟨a', c', w', hr, hS.vec_put k1 k2 k4⟩
theorem wp_append_sep {P : Program} {o : Oper} {a : Act} {K : Act → World → Prop} {Q : Exit → Act → World → Prop} (hS : Sep w (vec e size v n xs :: rs)) (s x : Operand) (t : TypeId)
    (ho : o.op = .call { callee := .builtin .append, args := #[s, x], argTypes := #[t, t] })
    (i : TypeInfo) (z : Value) (bytes : Nat) (ht : P.underlying t = some (.slice e)) (hi : P.info? e = some i) (hz : i.zero = some z)
    (hsize : i.size = size) (hby : i.bytes = bytes) (hzs : z.cells.size = size) (hsz : 0 < size)
    (hs : a.eval s = v)
    (m : Nat) (news : List Value) (hx : SrcA w size (a.eval x) m news) (h1 : ∀ u ∈ news, u.oneCell' = true)
    (h63 : n + m ≤ maxLen) (hbytes : (n + m) * bytes ≤ 140737488355328)
    (h : ∀ (a' : Option Addr) (c' : Nat) w', Sep w' (vec e size (.slice a' (n + m) c') (n + m) (xs ++ news) :: rs) → K (a.put o.dst (.slice a' (n + m) c')) w') : o.wp P a w K Q := by
  obtain ⟨a', c', w', hr, hS'⟩ := run_append_sep (P := P) hS t o.type i z bytes ht hi hz hsize hby hzs hsz _ m news hx h1 h63 hbytes
  unfold Oper.wp execOp
  simp only [ho, resolve, invoke, builtin, Sem.run_bind, Sem.run_pure, Result.andThen_ok, List.map_toArray, List.map_cons, List.map_nil, hs, hr]
  exact h a' c' w' hS'
/-- Append to a slice of the call's own, guarded or not. -/
theorem wpList_append_sep {P : Program} {ops : Array Oper} {rest : List Oper} {o : Oper} {a : Act} {Q : Exit → Act → World → Prop} (hS : Sep w (vec e size v n xs :: rs)) (hw : Region.wanted o (yielded ops a.tmps) = true) (s x : Operand) (t : TypeId)
    (ho : o.op = .call { callee := .builtin .append, args := #[s, x], argTypes := #[t, t] })
    (i : TypeInfo) (z : Value) (bytes : Nat) (ht : P.underlying t = some (.slice e)) (hi : P.info? e = some i) (hz : i.zero = some z)
    (hsize : i.size = size) (hby : i.bytes = bytes) (hzs : z.cells.size = size) (hsz : 0 < size)
    (hs : a.eval s = v)
    (m : Nat) (news : List Value) (hx : SrcA w size (a.eval x) m news) (h1 : ∀ u ∈ news, u.oneCell' = true)
    (h63 : n + m ≤ maxLen) (hbytes : (n + m) * bytes ≤ 140737488355328)
    (h : ∀ (a' : Option Addr) (c' : Nat) w', Sep w' (vec e size (.slice a' (n + m) c') (n + m) (xs ++ news) :: rs) → wpList P ops Q rest (a.put o.dst (.slice a' (n + m) c')) w') :
    wpList P ops Q (o :: rest) a w := by
  unfold wpList
  rw [if_pos hw]
  exact .inl (wp_append_sep hS s x t ho i z bytes ht hi hz hsize hby hzs hsz hs m news hx h1 h63 hbytes h)
end

theorem Sep.vec_ri {w : World} {e n : Nat} {v : Value} {xs : List Int} {rs : List Res} (h : Sep w (vec e 1 v n (xs.map (Value.int .i64)) :: rs)) : RI w v xs := by
  obtain ⟨a, c, rfl⟩ := own_slice h.gvec
  have hn : n = xs.length := by have := h.gvec.1; simp at this; omega
  subst hn
  refine ⟨a, c, rfl, fun h0 => ?_⟩
  obtain ⟨g, ha, _, hlt, hc⟩ := own_cells h.gvec h0
  refine ⟨g, 0, ha, hlt, fun j hj => ?_⟩
  have := hc j (by simpa using hj)
  rw [Nat.zero_add, this]
  simp [List.getD, hj]

/-- Two parts as one. -/
def star (r s : Res) : Res where
  at_ A w := ∃ B C, (∀ b, A b ↔ B b ∨ C b) ∧ (∀ b, C b → ¬ B b) ∧ r.at_ B w ∧ s.at_ C w
  lt h b hb := by
    obtain ⟨B, C, h1, _, h2, h3⟩ := h
    exact ((h1 b).1 hb).elim (r.lt h2 b) (s.lt h3 b)
  keep h k := by
    obtain ⟨B, C, h1, h0, h2, h3⟩ := h
    exact ⟨B, C, h1, h0, r.keep h2 (k.mono fun b _ hb => (h1 b).2 (.inl hb)), s.keep h3 (k.mono fun b _ hb => (h1 b).2 (.inr hb))⟩
theorem Sep.gstar {w : World} {r s : Res} {rs : List Res} : Sep w (star r s :: rs) ↔ Sep w (r :: s :: rs) := by
  constructor
  · intro h
    obtain ⟨A, ⟨B, C, h1, h0, h2, h3⟩, _, k3⟩ := h.out
    exact ⟨B, h2, fun _ _ h => h, C, h3, fun b hc hb => hb.elim id (h0 b hc), k3.mono fun b _ hb => .inr ((h1 b).2 (hb.elim (fun h => h.elim False.elim .inl) .inr))⟩
  · intro h
    obtain ⟨B, h2, _, C, h3, h0, k3⟩ := h.out
    exact ⟨fun b => B b ∨ C b, ⟨B, C, fun _ => Iff.rfl, fun b hc hb => h0 b hc (.inr hb), h2, h3⟩, fun _ _ h => h, k3.mono fun b _ hb => hb.elim (fun h => h.elim) fun h => h.elim (fun h => .inl (.inr h)) .inr⟩

/-- A condition, no block. -/
def prop (p : Prop) : Res where
  at_ A _ := (∀ b, ¬ A b) ∧ p
  lt h b hb := absurd hb (h.1 b)
  keep h _ := h
theorem Sep.gprop {w : World} {p : Prop} {rs : List Res} : Sep w (prop p :: rs) ↔ p ∧ Sep w rs :=
  ⟨fun h => ⟨let ⟨_, h1, _⟩ := h.out; h1.2, h.tail⟩, fun ⟨hp, h⟩ => h.new (A := fun _ => False) ⟨fun _ h => h, hp⟩ (Keeps.refl _ _) (fun _ h => h.elim)⟩
end Go.Proofs.Ytcnkmhfcgkbhbaa
namespace Go.Proofs.Ytcnkmhfcgkbhbaa
set_option linter.unusedSimpArgs false
set_option linter.unusedVariables false
set_option linter.unnecessarySimpa false
open Go.RowKit

/-- The value v is a slice of n elements of sz cells each, and its cells read as cs. -/
def RL (w : World) (v : Value) (sz n : Nat) (cs : List Value) : Prop :=
  cs.length = n * sz ∧ ∃ a c, v = .slice a n c ∧ n ≤ c ∧ (a = none → c = 0) ∧ (0 < n → ∃ b off, a = some ⟨b, off, none⟩ ∧ b < w.heap.size ∧ ∀ j u, cs[j]? = some u → w.cell? ⟨b, off + j, none⟩ = some u)
theorem RL.below {w w' : World} {v : Value} {sz n : Nat} {cs : List Value} (h : RL w v sz n cs) (hb : Below w.heap.size w w') : RL w' v sz n cs := by
  obtain ⟨hl, a, c, hv, hc, hna, hr⟩ := h
  refine ⟨hl, a, c, hv, hc, hna, fun h0 => ?_⟩
  obtain ⟨b, off, ha, hlt, hz⟩ := hr h0
  exact ⟨b, off, ha, Nat.lt_of_lt_of_le hlt hb.size, fun j u hj => (hb.cell (p := ⟨b, off + j, none⟩) hlt).trans (hz j u hj)⟩
theorem RL.nil (w : World) (sz : Nat) : RL w (.slice none 0 0) sz 0 [] := ⟨by simp, none, 0, rfl, Nat.le_refl _, fun _ => rfl, fun h => by omega⟩
theorem RL.srcA {w : World} {v : Value} {sz n : Nat} {cs : List Value} (h : RL w v sz n cs) : SrcA w sz v n cs := by
  obtain ⟨hl, a, c, rfl, hc, hna, hr⟩ := h
  by_cases h0 : 0 < n
  · obtain ⟨b, off, rfl, _, hz⟩ := hr h0
    exact .inr ⟨_, _, rfl, hl, fun j u hu => by rw [Addr.add_lit]; exact hz j u hu⟩
  · have hn : n = 0 := by omega
    subst hn
    have hcs : cs = [] := List.eq_nil_of_length_eq_zero (by simpa using hl)
    subst hcs
    cases a with
    | none => exact .inl ⟨by rw [hna rfl], rfl, rfl⟩
    | some ad => exact .inr ⟨ad, c, rfl, by simp, fun j u hu => by simp at hu⟩
theorem RL.of_own {w : World} {base : Nat} {e : TypeId} {sz n : Nat} {v : Value} {cs : List Value} (h : w.ownsRow base e sz v n cs) : RL w v sz n cs := by
  refine ⟨h.1, ?_⟩
  rcases h.2 with ⟨rfl, rfl⟩ | ⟨g, cap, cur, rfl, hb, hg, hnc, hcm, hcs, htake⟩
  · exact ⟨none, 0, rfl, Nat.le_refl _, fun _ => rfl, fun h => by omega⟩
  · refine ⟨_, cap, rfl, hnc, (fun h => by cases h), fun _ => ⟨g, 0, rfl, (Array.getElem?_eq_some_iff.1 hg).1, fun j u hu => ?_⟩⟩
    have := h.cells (g := g) rfl j u hu
    rw [Addr.add_lit] at this
    exact this
theorem Sep.vec_rl {w : World} {e : TypeId} {sz n : Nat} {v : Value} {cs : List Value} {rs : List Res} (h : Sep w (vec e sz v n cs :: rs)) : RL w v sz n cs := RL.of_own h.gvec

/-- Cells of records, one after the other. -/
theorem flat_len {α : Type} (enc : α → List Value) (sz : Nat) (hz : ∀ x, (enc x).length = sz) : ∀ l : List α, (l.flatMap enc).length = l.length * sz
  | [] => by simp
  | x :: l => by rw [List.flatMap_cons, List.length_append, hz, flat_len enc sz hz l, List.length_cons, Nat.succ_mul]; omega
theorem flat_at {α : Type} (enc : α → List Value) (sz : Nat) (hz : ∀ x, (enc x).length = sz) : ∀ (l : List α) (k j : Nat) (x : α), l[k]? = some x → j < sz → (l.flatMap enc)[k * sz + j]? = (enc x)[j]?
  | [], _, _, _, h, _ => by simp at h
  | y :: l, 0, j, x, h, hj => by
    simp at h
    subst h
    rw [List.flatMap_cons, List.getElem?_append_left (by rw [hz]; omega)]
    simp
  | y :: l, k + 1, j, x, h, hj => by
    have ih := flat_at enc sz hz l k j x (by simpa using h) hj
    rw [List.flatMap_cons, List.getElem?_append_right (by rw [hz, Nat.succ_mul]; omega), hz, ← ih]
    congr 1
    rw [Nat.succ_mul]
    omega
theorem flat_take {α : Type} (enc : α → List Value) (sz : Nat) (hz : ∀ x, (enc x).length = sz) (l : List α) (k : Nat) (hk : k ≤ l.length) : (l.flatMap enc).take (k * sz) = (l.take k).flatMap enc := by
  have h : l.flatMap enc = (l.take k).flatMap enc ++ (l.drop k).flatMap enc := by rw [← List.flatMap_append, List.take_append_drop]
  rw [h]
  have hl : ((l.take k).flatMap enc).length = k * sz := by rw [flat_len enc sz hz]; simp [Nat.min_eq_left hk]
  rw [← hl]
  simp
/-- Element k of a slice that reads as records: its cells, behind an address. -/
theorem RL.at_ {α : Type} {enc : α → List Value} {sz : Nat} (hz : ∀ x, (enc x).length = sz) {w : World} {v : Value} {l : List α} (h : RL w v sz l.length (l.flatMap enc)) (h0 : 0 < l.length) :
    ∃ b off c, v = .slice (some ⟨b, off, none⟩) l.length c ∧ l.length ≤ c ∧ b < w.heap.size ∧ ∀ k x, l[k]? = some x → ∀ j u, (enc x)[j]? = some u → w.cell? ⟨b, off + (k * sz + j), none⟩ = some u := by
  obtain ⟨_, a, c, rfl, hc, hna, hr⟩ := h
  obtain ⟨b, off, rfl, hb, hcell⟩ := hr h0
  refine ⟨b, off, c, rfl, hc, hb, fun k x hk j u hu => hcell _ _ ?_⟩
  have hj : j < sz := by rw [← hz x]; exact (List.getElem?_eq_some_iff.1 hu).1
  rw [flat_at enc sz hz l k j x hk hj]
  exact hu
end Go.Proofs.Ytcnkmhfcgkbhbaa
namespace Go.Proofs.Ytcnkmhfcgkbhbaa
set_option linter.unusedSimpArgs false
set_option linter.unusedVariables false
set_option linter.unnecessarySimpa false
open Go.RowKit Go.Shelf Go.Sort
theorem size_putCells {α : Type} [Inhabited α] (enc : α → Value) (off : Nat) (d : Array α) (c : Array Value) : (putCells enc off d c).size = c.size := by simp [putCells]
theorem putCells_take {α : Type} [Inhabited α] (enc : α → Value) (d : Array α) (c : Array Value) (h : d.size ≤ c.size) : (putCells enc 0 d c).toList.take d.size = d.toList.map enc := by
  apply List.ext_getElem?
  intro j
  rw [List.getElem?_take]
  by_cases hj : j < d.size
  · rw [if_pos hj, Array.getElem?_toList, List.getElem?_map, Array.getElem?_toList, Array.getElem?_eq_getElem hj, Array.getElem?_eq_getElem (by rw [size_putCells]; omega)]
    simp [putCells, hj]
  · rw [if_neg hj, List.getElem?_eq_none (by simpa using hj)]
theorem heap_row {α : Type} [Inhabited α] (enc : α → Value) (w : World) (g m : Nat) (d : Array α) (os : Array Obj) (b : Nat) (hb : b < w.heap.size) :
    (grow (putRow enc (Go.Sort.ahead w m) g 0 d) os).heap[b]? = if g = b then (w.heap[b]?).map (onCells (putCells enc 0 d)) else w.heap[b]? := by
  simp only [grow, putRow, mapBlock, Go.Sort.ahead]
  rw [Array.getElem?_append_left (by simpa using hb), Array.getElem?_modify]
theorem Sep.blk_row {α : Type} [Inhabited α] {w : World} {g : Nat} {t : TypeId} {cs : Array Value} {rs : List Res} (h : Sep w (blk g t cs :: rs)) (enc : α → Value) (m : Nat) (d : Array α) (os : Array Obj) :
    Sep (grow (putRow enc (Go.Sort.ahead w m) g 0 d) os) (blk g t (putCells enc 0 d cs) :: rs) := by
  obtain ⟨A, h1, h2⟩ := h.open_
  have hlt := h1.2.lt
  have hsz : (grow (putRow enc (Go.Sort.ahead w m) g 0 d) os).heap.size = w.heap.size + os.size := by simp [grow, putRow, mapBlock, Go.Sort.ahead]
  refine h2 _ _ A ⟨h1.1, ?_⟩ ⟨rfl, rfl, rfl, by rw [hsz]; omega, fun b hb hA => ?_⟩ (fun b hb => .inl hb)
  · show (grow (putRow enc (Go.Sort.ahead w m) g 0 d) os).heap[g]? = _
    rw [heap_row enc w g m d os g hlt, if_pos rfl, show w.heap[g]? = _ from h1.2]
    rfl
  · rw [heap_row enc w g m d os b hb, if_neg]
    intro hgb
    exact hA ((h1.1 b).2 hgb.symm)
theorem Sep.vec_row {α : Type} [Inhabited α] {w : World} {e : TypeId} {size n g c : Nat} {xs : List Value} {rs : List Res} (h : Sep w (vec e size (.slice (some ⟨g, 0, none⟩) n c) n xs :: rs)) (enc : α → Value) (m : Nat) (d : Array α) (os : Array Obj) (hd : d.size = n * size) :
    Sep (grow (putRow enc (Go.Sort.ahead w m) g 0 d) os) (vec e size (.slice (some ⟨g, 0, none⟩) n c) n (d.toList.map enc) :: rs) := by
  obtain ⟨cur, hS, hnc, hcm, hcs, ht⟩ := h.vec_blk
  have hle : d.size ≤ cur.size := by rw [hd, hcs]; exact Nat.mul_le_mul_right _ hnc
  refine (hS.blk_row enc m d os).blk_vec (by simpa using hd) hnc hcm (by rw [size_putCells]; exact hcs) ?_
  rw [← hd]
  exact putCells_take enc d cur hle
theorem flatK_list {α : Type} [Inhabited α] (enc : α → List Value) (k : Nat) (hk : ∀ x, (enc x).length = k) (d : Array α) : (flatK enc k d).toList = d.toList.flatMap enc := by
  have hl := flat_len enc k hk d.toList
  have hs := size_flatK enc k d
  apply List.ext_getElem?
  intro j
  by_cases hj : j < d.size * k
  · have k0 : 0 < k := by
      rcases Nat.eq_zero_or_pos k with h | h
      · subst h; simp at hj
      · exact h
    have hq : j / k < d.size := Nat.div_lt_of_lt_mul (by rw [Nat.mul_comm]; exact hj)
    have h1 := get_flatK enc k d j hj
    have hjs : j < (flatK enc k d).size := by rw [hs]; exact hj
    rw [getElem!_pos _ j hjs] at h1
    have h2 := flat_at enc k hk d.toList (j / k) (j % k) d[j / k] (by simp [hq]) (Nat.mod_lt _ k0)
    rw [show j / k * k + j % k = j by rw [Nat.mul_comm]; exact Nat.div_add_mod j k] at h2
    rw [h2, Array.getElem?_toList, Array.getElem?_eq_getElem hjs, h1, getElem!_pos d (j / k) hq]
    have hm : j % k < (enc d[j / k]).length := by rw [hk]; exact Nat.mod_lt _ k0
    rw [getElem!_pos _ (j % k) hm, List.getElem?_eq_getElem hm]
  · rw [List.getElem?_eq_none (by simpa [hs] using hj), List.getElem?_eq_none (by rw [hl]; simpa using hj)]
theorem perm_list {α : Type} [Inhabited α] {d d' : Array α} (h : PermIn 0 d.size d d') : d'.size = d.size ∧ d'.toList.Perm d.toList := by
  refine ⟨h.1, ?_⟩
  have := h.2.2
  rw [show d.extract 0 d.size = d by simp, ← h.1, show d'.extract 0 d'.size = d' by simp] at this
  exact this
theorem sorted_list {α : Type} [Inhabited α] {lt : α → α → Bool} {d d' : Array α} (hs : d'.size = d.size) (h : SortedIn lt 0 d.size d') : d'.toList.Pairwise fun a b => lt b a = false := by
  rw [List.pairwise_iff_getElem]
  intro i j hi hj hij
  have h1 : i < d'.size := by simpa using hi
  have h2 : j < d'.size := by simpa using hj
  have := h i j (Nat.zero_le _) hij (by omega)
  rw [getElem!_pos d' j h2, getElem!_pos d' i h1] at this
  simpa using this
/-- A row of one cell each, held. -/
theorem Sep.vec_holds1 {α : Type} [Inhabited α] {w : World} {e : TypeId} {n g c : Nat} {rs : List Res} (enc : α → Value) (l : List α) (h : Sep w (vec e 1 (.slice (some ⟨g, 0, none⟩) n c) n (l.map enc) :: rs)) (_hl : l.length = n) : Holds enc w g 0 l.toArray ∧ g < w.heap.size := by
  refine ⟨fun j hj => ?_, ?_⟩
  · have hj' : j < l.length := by simpa using hj
    have := h.vec_cell (k := j) (u := enc l[j]) (by rw [List.getElem?_map, List.getElem?_eq_getElem hj']; rfl)
    rw [Nat.zero_add, getElem!_pos _ j hj]
    exact ⟨by simpa using this.1, this.2.1⟩
  · obtain ⟨cur, hS, _⟩ := h.vec_blk
    exact hS.gblk.lt
theorem Sep.vec_holdsK {α : Type} [Inhabited α] {w : World} {e : TypeId} {n g c k : Nat} {rs : List Res} (enc : α → List Value) (hk : ∀ x, (enc x).length = k) (l : List α) (h : Sep w (vec e k (.slice (some ⟨g, 0, none⟩) n c) n (l.flatMap enc) :: rs)) : HoldsK enc k w g 0 l.toArray ∧ g < w.heap.size := by
  refine ⟨fun j hj => ?_, ?_⟩
  · have hL := flatK_list enc k hk l.toArray
    have hg : (flatK enc k l.toArray).toList[j]? = some ((flatK enc k l.toArray)[j]!) := by
      rw [Array.getElem?_toList, Array.getElem?_eq_getElem hj, getElem!_pos _ j hj]
    rw [hL] at hg
    have := h.vec_cell (k := j) hg
    rw [Nat.zero_add]
    exact ⟨this.1, this.2.1⟩
  · obtain ⟨cur, hS, _⟩ := h.vec_blk
    exact hS.gblk.lt
theorem swo_int : SWO (ltOf Lib.compareInt) := by
  have h : ∀ x y : Int, ltOf Lib.compareInt x y = decide (x < y) := fun x y => by
    unfold ltOf Lib.compareInt
    by_cases h1 : x < y
    · simp [h1]
    · by_cases h2 : y < x <;> simp [h1, h2]
  exact ⟨fun x => by rw [h]; simp, fun x y z h1 h2 => by rw [h] at *; simp at *; omega, fun x y z h1 h2 => by rw [h] at *; simp at *; omega⟩
theorem lt_int (x y : Int) : ltOf Lib.compareInt x y = decide (x < y) := by
  unfold ltOf Lib.compareInt
  by_cases h1 : x < y
  · simp [h1]
  · by_cases h2 : y < x <;> simp [h1, h2]
end Go.Proofs.Ytcnkmhfcgkbhbaa
namespace Go.Proofs.Ytcnkmhfcgkbhbaa
set_option linter.unusedSimpArgs false
set_option linter.unusedVariables false
set_option linter.unnecessarySimpa false
open Go.RowKit
def setN (l : List Value) (k : Nat) : List Value → List Value
  | [] => l
  | u :: us => setN (l.set k u) (k + 1) us
def setW (w : World) (g k : Nat) : List Value → World
  | [] => w
  | u :: us => setW (w.setCell ⟨g, k, none⟩ u) g (k + 1) us
theorem setN_eq : ∀ (us l : List Value) (k : Nat), k + us.length ≤ l.length → setN l k us = l.take k ++ us ++ l.drop (k + us.length)
  | [], l, k, _ => by simp [setN]
  | u :: us, l, k, h => by
    simp only [List.length_cons] at h
    rw [setN, setN_eq us _ _ (by rw [List.length_set]; omega), List.take_succ_eq_append_getElem (by rw [List.length_set]; omega), List.take_set_of_le (Nat.le_refl _), List.getElem_set_self, List.drop_set_of_lt (by omega)]
    simp [Nat.add_assoc, Nat.add_comm 1]
section
variable {w : World} {e : TypeId} {size n : Nat} {xs : List Value} {rs : List Res}
theorem Sep.vec_setN {g c : Nat} : ∀ (us : List Value) (k : Nat) (w : World) (xs : List Value), Sep w (vec e size (.slice (some ⟨g, 0, none⟩) n c) n xs :: rs) → k + us.length ≤ xs.length → Sep (setW w g k us) (vec e size (.slice (some ⟨g, 0, none⟩) n c) n (setN xs k us) :: rs)
  | [], _, _, _, h, _ => h
  | u :: us, k, w, xs, h, hk => Sep.vec_setN us (k + 1) _ _ (h.vec_set (by simp only [List.length_cons] at hk; omega) u) (by simp only [List.length_cons, List.length_set] at hk ⊢; omega)
end
section
variable {α : Type} {enc : α → List Value} {sz : Nat}
theorem flat_put (hz : ∀ x, (enc x).length = sz) (l : List α) (i : Nat) (q : α) (h : i < l.length) : setN (l.flatMap enc) (i * sz) (enc q) = (l.set i q).flatMap enc := by
  have hl := flat_len enc sz hz l
  have h1 : i * sz + sz ≤ l.length * sz := by rw [← Nat.succ_mul]; exact Nat.mul_le_mul_right _ h
  rw [setN_eq _ _ _ (by rw [hz, hl]; exact h1), hz, flat_take enc sz hz l i (by omega), List.set_eq_take_append_cons_drop, if_pos h, List.flatMap_append, List.flatMap_cons, List.append_assoc]
  congr 2
  have h2 : l = l.take (i + 1) ++ l.drop (i + 1) := (List.take_append_drop _ _).symm
  have h3 := flat_len enc sz hz (l.take (i + 1))
  rw [List.length_take, Nat.min_eq_left (by omega)] at h3
  conv => lhs; rw [h2, List.flatMap_append]
  rw [List.drop_append_of_le_length (by rw [h3, Nat.succ_mul]; exact Nat.le_refl _), List.drop_of_length_le (by rw [h3, Nat.succ_mul]; exact Nat.le_refl _), List.nil_append]
end
section
variable {w : World} {e : TypeId} {size n : Nat} {xs : List Value} {rs : List Res}
theorem run_clear_sep {P : Program} {g c : Nat} (hS : Sep w (vec e size (.slice (some ⟨g, 0, none⟩) n c) n xs :: rs)) (t ty : TypeId) (z : Value) (ht : P.underlying t = some (.slice e)) (hz : ∀ w : World, (zeroValue e).run P w = .ok z w)
    (hzs : z.cells.size = size) (hz1 : ∀ u ∈ z.cells.toList, u.oneCell' = true) (k : Nat) (hk : k < n) (c' : Nat) :
    ∃ w' ys, (Builtin.clear_ #[t] ty #[.slice (some ⟨g, k * size, none⟩) (n - k) c']).run P w = .ok (.tuple #[]) w' ∧ Sep w' (vec e size (.slice (some ⟨g, 0, none⟩) n c) n (xs.take (k * size) ++ ys) :: rs) := by
  have hl := hS.gvec.1
  obtain ⟨cur, hB, hnc, hcm, hcs, htk⟩ := hS.vec_blk
  have hg := hB.gblk
  have hzl : (Builtin.zeroCells z.cells (n - k)).toList.length = (n - k) * size := by rw [Array.length_toList, size_zeroCells, hzs]
  have hn : k * size + (n - k) * size = n * size := by rw [← Nat.add_mul]; congr 1; omega
  have hnc' : n * size ≤ c * size := Nat.mul_le_mul_right _ hnc
  have hst := run_storeCells_at P g (k * size) e (Builtin.zeroCells z.cells (n - k)).toList 0 cur w hg (by rw [hzl]; omega) (by
    intro u hu
    simp only [Builtin.zeroCells, Array.toList_map, List.mem_map, Array.toList_range, List.mem_range] at hu
    obtain ⟨j, hj, rfl⟩ := hu
    have hsz : 0 < z.cells.size := by
      rcases Nat.eq_zero_or_pos z.cells.size with h0 | h0
      · rw [h0] at hj; simp at hj
      · exact h0
    have hlt : j % z.cells.size < z.cells.size := Nat.mod_lt _ hsz
    have hm : z.cells[j % z.cells.size]! ∈ z.cells.toList := by
      rw [getElem!_pos z.cells _ hlt]
      exact Array.getElem_mem_toList hlt
    exact hz1 _ hm)
  simp only [Nat.add_zero] at hst
  refine ⟨w.setRow g (cur.toList.take (k * size) ++ (Builtin.zeroCells z.cells (n - k)).toList ++ cur.toList.drop (k * size + (Builtin.zeroCells z.cells (n - k)).toList.length)).toArray, (Builtin.zeroCells z.cells (n - k)).toList, ?_, ?_⟩
  · obtain ⟨d, hd⟩ : ∃ d, n - k = d + 1 := ⟨n - k - 1, by omega⟩
    rw [hd] at hst ⊢
    simp [Builtin.clear_, run_underlying ht, hz, hst]
  · obtain ⟨A, h1, h2⟩ := hB.open_
    have hS2 : Sep (w.setRow g (cur.toList.take (k * size) ++ (Builtin.zeroCells z.cells (n - k)).toList ++ cur.toList.drop (k * size + (Builtin.zeroCells z.cells (n - k)).toList.length)).toArray) (blk g e (cur.toList.take (k * size) ++ (Builtin.zeroCells z.cells (n - k)).toList ++ cur.toList.drop (k * size + (Builtin.zeroCells z.cells (n - k)).toList.length)).toArray :: rs) :=
      h2 _ _ A ⟨h1.1, setRow_heap w g cur _ e _ hg⟩ ⟨rfl, rfl, rfl, by simp, fun b _ hb => setRow_other w g b _ (fun e => hb ((h1.1 b).2 e))⟩ (fun _ => .inl)
    have hkn : k * size ≤ n * size := Nat.mul_le_mul_right _ (by omega)
    have hcl : cur.toList.length = c * size := by rw [Array.length_toList, hcs]
    refine hS2.blk_vec ?_ hnc hcm ?_ ?_
    · rw [List.length_append, List.length_take, hl, hzl]; omega
    · simp only [List.size_toArray, List.length_append, List.length_take, List.length_drop, hzl, hcl]; omega
    · have ht2 : (cur.toList.take (k * size)) = xs.take (k * size) := by rw [← htk, List.take_take, Nat.min_eq_left hkn]
      rw [ht2]
      simp only
      rw [List.take_append_of_le_length (by rw [List.length_append, List.length_take, hl, hzl]; omega)]
      exact List.take_of_length_le (by rw [List.length_append, List.length_take, hl, hzl]; omega)
/-- clear of the tail of a slice of the call's own. -/
theorem wpList_clear_sep {P : Program} {ops : Array Oper} {rest : List Oper} {o : Oper} {a : Act} {Q : Exit → Act → World → Prop} {g c : Nat} (hS : Sep w (vec e size (.slice (some ⟨g, 0, none⟩) n c) n xs :: rs)) (hw : Region.wanted o (yielded ops a.tmps) = true) (x : Operand) (t : TypeId)
    (ho : o.op = .call { callee := .builtin .clear, args := #[x], argTypes := #[t] }) (z : Value) (ht : P.underlying t = some (.slice e)) (hz : ∀ w : World, (zeroValue e).run P w = .ok z w)
    (hzs : z.cells.size = size) (hz1 : ∀ u ∈ z.cells.toList, u.oneCell' = true) (k : Nat) (hk : k < n) (c' : Nat) (hx : a.eval x = .slice (some ⟨g, k * size, none⟩) (n - k) c')
    (h : ∀ w' ys, Sep w' (vec e size (.slice (some ⟨g, 0, none⟩) n c) n (xs.take (k * size) ++ ys) :: rs) → wpList P ops Q rest (a.put o.dst (.tuple #[])) w') : wpList P ops Q (o :: rest) a w := by
  obtain ⟨w', ys, hr, hS'⟩ := run_clear_sep (P := P) hS t o.type z ht hz hzs hz1 k hk c'
  unfold wpList
  rw [if_pos hw]
  refine .inl ?_
  unfold Oper.wp execOp
  simp only [ho, resolve, invoke, builtin, Sem.run_bind, Sem.run_pure, Result.andThen_ok, List.map_toArray, List.map_cons, List.map_nil, hx, hr]
  exact h w' ys hS'
end
section
variable {α : Type} [Inhabited α]
def keepL (p : α → Bool) (l : List α) : List α := l.filter fun q => !p q
theorem take_snocL (l : List α) (k : Nat) (h : k < l.length) : l.take (k + 1) = l.take k ++ [l.getD k default] := by
  rw [List.take_succ_eq_append_getElem h]; simp [List.getD, h]
theorem keepL_snoc (p : α → Bool) (l : List α) (k : Nat) (h : k < l.length) : keepL p (l.take (k + 1)) = keepL p (l.take k) ++ (if p (l.getD k default) then [] else [l.getD k default]) := by
  rw [take_snocL l k h]
  unfold keepL
  rw [List.filter_append]
  generalize l.getD k default = q
  cases hp : p q <;> simp [hp]
end
theorem take_set_snocL {α : Type} (l : List α) (i : Nat) (q : α) (h : i < l.length) : (l.set i q).take (i + 1) = l.take i ++ [q] := by
  rw [List.take_succ_eq_append_getElem (by rw [List.length_set]; exact h), List.take_set_of_le (Nat.le_refl _)]
  simp
theorem Sep.vec_at {α : Type} [Inhabited α] {enc : α → List Value} {sz : Nat} (hz : ∀ x, (enc x).length = sz) {w : World} {e : TypeId} {a : Option Addr} {m c i : Nat} {l : List α} {rs : List Res} (h : Sep w (vec e sz (.slice a m c) m (l.flatMap enc) :: rs)) (hl : l.length = m) (hi : i < m) :
    ∃ g, a = some ⟨g, 0, none⟩ ∧ g < w.heap.size ∧ m ≤ c ∧ (∀ f u, (enc (l.getD i default))[f]? = some u → w.cell? ⟨g, i * sz + f, none⟩ = some u) ∧ ∀ o, w.frozen? ⟨g, o, none⟩ = false := by
  rcases h.gvec.2 with ⟨_, h0⟩ | ⟨g, cap, cur, hv, _⟩
  · omega
  · injection hv with e1 _ e3
    subst e1 e3
    obtain ⟨cur2, hB, hnc, _, _, ht⟩ := h.vec_blk
    refine ⟨g, rfl, hB.gblk.lt, hnc, fun f u hu => ?_, fun o => hB.gblk.frozen o⟩
    have hx : l[i]? = some (l.getD i default) := by
      rw [List.getElem?_eq_getElem (by omega)]
      simp [List.getD, show i < l.length by omega]
    have hf : f < sz := by rw [← hz]; exact (List.getElem?_eq_some_iff.1 hu).1
    have h1 := flat_at enc sz hz l i f _ hx hf
    rw [← ht, hu] at h1
    have h2 : cur2.toList[i * sz + f]? = some u := by
      rw [List.getElem?_take] at h1
      split at h1
      · exact h1
      · cases h1
    rw [hB.gblk.cell, ← h2]
    simp
end Go.Proofs.Ytcnkmhfcgkbhbaa
namespace Go.Proofs.Ytcnkmhfcgkbhbaa
set_option linter.unusedSimpArgs false
set_option linter.unusedVariables false
set_option linter.unnecessarySimpa false
open Go.RowKit
section
variable {P : Program} {ops : Array Oper} {Q : Exit → Act → World → Prop} {md : Region.Mode} {S : World → Prop}
theorem put_back {v : Value} {d : Option Tmp} (hQ : ∀ c t t' d w, Q (.panic c) ⟨t, d⟩ w → Q (.panic c) ⟨t', d⟩ w) : ∀ c a w, Q (.panic c) (a.put d v) w → Q (.panic c) a w := fun c a w h => by
  obtain ⟨t, e⟩ := a
  cases d with
  | none => exact h
  | some k => exact hQ c _ t e w h
theorem held_begin {id : Nat} {a : Act} {w : World} (S : World → Prop) (hm : P.follows .mixedOrders = true) (hS : S w.drew)
    (h : wpAnyH P .any ops Q S ops.size (Array.replicate ops.size false) a w.drew) : (Code.region id ops true).wp P Q a w := wp_region_held_drew hm hS (fun _ => h)
theorem held_take (i : Nat) (v : Value) {oi : Oper} {fuel : Nat} {listed : Array Bool} {a : Act} {w : World} (hi : ops[i]? = some oi)
    (hs : Region.noSelect ops = true) (hf : Region.free md ops listed i = true) (hr : (Region.ready md ops listed).contains i = true)
    (hQ : ∀ c t t' d w, Q (.panic c) ⟨t, d⟩ w → Q (.panic c) ⟨t', d⟩ w) (hw : Region.wanted oi (yielded ops a.tmps) = true) (hS : S w)
    (hy : ∀ w, S w → (execOp a.eval oi).run P w = .ok (.value v) w)
    (h : wpAnyH P md ops Q S fuel (listed.setIfInBounds i true) (a.put oi.dst v) w) : wpAnyH P md ops Q S (fuel + 1) listed a w :=
  wpAnyH_take hi hs hf hr (put_back hQ) (.inl ⟨hw, hy⟩) hS h
theorem held_skip (i : Nat) {oi : Oper} {fuel : Nat} {listed : Array Bool} {a : Act} {w : World} (hi : ops[i]? = some oi)
    (hs : Region.noSelect ops = true) (hf : Region.free md ops listed i = true) (hr : (Region.ready md ops listed).contains i = true)
    (hQ : ∀ c t t' d w, Q (.panic c) ⟨t, d⟩ w → Q (.panic c) ⟨t', d⟩ w) (hw : Region.wanted oi (yielded ops a.tmps) = false) (hS : S w)
    (h : wpAnyH P md ops Q S fuel (listed.setIfInBounds i true) (a.put oi.dst undef) w) : wpAnyH P md ops Q S (fuel + 1) listed a w :=
  wpAnyH_take hi hs hf hr (put_back hQ) (.inr ⟨hw, rfl⟩) hS h
theorem held_one (i : Nat) {oi : Oper} {fuel : Nat} {listed : Array Bool} {a : Act} {w : World} (hr : Region.ready md ops listed = [i]) (hi : ops[i]? = some oi)
    (hw : Region.wanted oi (yielded ops a.tmps) = true)
    (h : ∀ K : Act → World → Prop, Hid (∀ a w, S w → wpAnyH P md ops Q S fuel (listed.setIfInBounds i true) a w → K a w) → oi.wp P a w K Q) : wpAnyH P md ops Q S (fuel + 1) listed a w :=
  wpAnyH_ready hr (by simp) (AllReadyH.cons hi (fun K hK => by
    rw [if_pos hw]
    exact h K (fun a w hS hW => hK a w hS (fun _ => hW))) AllReadyH.nil)
end
/-- Behind a piece of code: what is handed on, and no panic. -/
def CutQ (R : Act → World → Prop) : Exit → Act → World → Prop
  | .normal, a, w => R a w
  | _, _, _ => False
theorem CutQ.mk {R : Act → World → Prop} {a : Act} {w : World} (h : R a w) : CutQ R .normal a w := h
end Go.Proofs.Ytcnkmhfcgkbhbaa
namespace Go.Proofs.Ytcnkmhfcgkbhbaa
set_option linter.unusedSimpArgs false
set_option linter.unusedVariables false
set_option linter.unnecessarySimpa false
open Go.RowKit
section
variable {P : Program} {ops : Array Oper} {Q : Exit → Act → World → Prop} {md : Region.Mode} {S : World → Prop}
/-- The plan, operation by operation: (i, true): taken first, or passed over; (i, false): alone ready. -/
def HL (P : Program) (ops : Array Oper) (Q : Exit → Act → World → Prop) (S : World → Prop) : List (Nat × Bool) → Act → World → Prop
  | [], a, w => Q .normal a w
  | (i, true) :: r, a, w => ∃ o, ops[i]? = some o ∧
      ((Region.wanted o (yielded ops a.tmps) = true ∧ ∃ v, (∀ W, S W → (execOp a.eval o).run P W = .ok (.value v) W) ∧ HL P ops Q S r (a.put o.dst v) w) ∨
       (Region.wanted o (yielded ops a.tmps) = false ∧ HL P ops Q S r (a.put o.dst undef) w))
  | (i, false) :: r, a, w => ∃ o, ops[i]? = some o ∧
      ((Region.wanted o (yielded ops a.tmps) = true ∧ ∀ K : Act → World → Prop, Hid (∀ a w, S w → HL P ops Q S r a w → K a w) → o.wp P a w K Q) ∨
       (Region.wanted o (yielded ops a.tmps) = false ∧ HL P ops Q S r (a.put o.dst undef) w))
def planOK (md : Region.Mode) (ops : Array Oper) : List (Nat × Bool) → Array Bool → Bool
  | [], l => (Region.ready md ops l).isEmpty
  | (i, true) :: r, l => Region.free md ops l i && (Region.ready md ops l).contains i && planOK md ops r (l.setIfInBounds i true)
  | (i, false) :: r, l => (Region.ready md ops l == [i]) && planOK md ops r (l.setIfInBounds i true)
theorem HL.sound (hs : Region.noSelect ops = true) (hQ : ∀ c t t' d w, Q (.panic c) ⟨t, d⟩ w → Q (.panic c) ⟨t', d⟩ w) : ∀ (p : List (Nat × Bool)) (l : Array Bool) (a : Act) (w : World), planOK md ops p l = true → S w → HL P ops Q S p a w → wpAnyH P md ops Q S p.length l a w
  | [], l, a, w, hp, hS, h => by
    simp only [planOK, List.isEmpty_iff] at hp
    exact wpAnyH_done hp h _
  | (i, true) :: r, l, a, w, hp, hS, h => by
    simp only [planOK, Bool.and_eq_true] at hp
    obtain ⟨o, ho, ⟨hw, v, hy, h⟩ | ⟨hw, h⟩⟩ := h
    · exact held_take i v ho hs hp.1.1 hp.1.2 hQ hw hS hy (HL.sound hs hQ r _ _ _ hp.2 hS h)
    · exact held_skip i ho hs hp.1.1 hp.1.2 hQ hw hS (HL.sound hs hQ r _ _ _ hp.2 hS h)
  | (i, false) :: r, l, a, w, hp, hS, h => by
    simp only [planOK, Bool.and_eq_true, beq_iff_eq] at hp
    obtain ⟨o, ho, ⟨hw, h⟩ | ⟨hw, h⟩⟩ := h
    · exact held_one i hp.1 ho hw (fun K hK => h K (fun a w hS' h' => hK.out a w hS' (HL.sound hs hQ r _ _ _ hp.2 hS' h')))
    · refine wpAnyH_ready hp.1 (by simp) (AllReadyH.cons ho (fun K hK => ?_) AllReadyH.nil)
      rw [if_neg (by rw [hw]; decide)]
      exact hK _ w hS (fun _ => HL.sound hs hQ r _ _ _ hp.2 hS h)
/-- The beginning. -/
theorem hl_begin {id : Nat} {a : Act} {w : World} (S : World → Prop) (p : List (Nat × Bool)) (hm : P.follows .mixedOrders = true) (hs : Region.noSelect ops = true)
    (hp : planOK .any ops p (Array.replicate ops.size false) = true) (hn : p.length = ops.size) (hQ : ∀ c t t' d w, Q (.panic c) ⟨t, d⟩ w → Q (.panic c) ⟨t', d⟩ w) (hS : S w.drew)
    (h : HL P ops Q S p a w.drew) : (Code.region id ops true).wp P Q a w :=
  held_begin S hm hS (by have := HL.sound hs hQ p _ a _ hp hS h; rw [hn] at this; exact this)
theorem hl_take {i : Nat} {r : List (Nat × Bool)} (v : Value) {o : Oper} {a : Act} {w : World} (hi : ops[i]? = some o) (hw : Region.wanted o (yielded ops a.tmps) = true)
    (hy : ∀ W, S W → (execOp a.eval o).run P W = .ok (.value v) W) (h : HL P ops Q S r (a.put o.dst v) w) : HL P ops Q S ((i, true) :: r) a w := ⟨o, hi, .inl ⟨hw, v, hy, h⟩⟩
theorem hl_one {i : Nat} {r : List (Nat × Bool)} {o : Oper} {a : Act} {w : World} (hi : ops[i]? = some o) (hw : Region.wanted o (yielded ops a.tmps) = true)
    (h : ∀ K : Act → World → Prop, Hid (∀ a w, S w → HL P ops Q S r a w → K a w) → o.wp P a w K Q) : HL P ops Q S ((i, false) :: r) a w := ⟨o, hi, .inl ⟨hw, h⟩⟩
theorem hl_done {a : Act} {w : World} (h : Q .normal a w) : HL P ops Q S [] a w := h
end
end Go.Proofs.Ytcnkmhfcgkbhbaa
