/-
  Contracts and plain laws that the walk leans on, part 1. No condition.
-/
import Derived.Test.YtmacpjnkmkaloaaGreatRows
import Derived.WalkKit
import Derived.WalkSpells
import Derived.Deep.QuietTactic
import Derived.BigQuiet
import Derived.StillTailTactics
import Derived.Lib.Hide
import Derived.Maps.AppendAt
import Derived.Laws.OwnMore
namespace Go.Proofs.YtmacpjnkmkaloaaGreat
set_option linter.unusedSimpArgs false
set_option linter.unusedVariables false
set_option linter.unnecessarySimpa false
open Go.RowKit

/-- Block g is just the cells cs of element type t, none frozen. -/
def Blk (w : World) (g : Nat) (t : TypeId) (cs : Array Value) : Prop := w.heap[g]? = some (.cells cs t (0, 0))
section
variable {w w' : World} {g : Nat} {t : TypeId} {cs : Array Value}
theorem Blk.lt (h : Blk w g t cs) : g < w.heap.size := by
  rcases Nat.lt_or_ge g w.heap.size with hlt | hge
  · exact hlt
  · unfold Blk at h; rw [Array.getElem?_eq_none hge] at h; cases h
theorem Blk.cell (h : Blk w g t cs) (i : Nat) : w.cell? ⟨g, i, none⟩ = cs[i]? := cell_of_row w g i cs t (0, 0) h
theorem Blk.frozen (h : Blk w g t cs) (i : Nat) : w.frozen? ⟨g, i, none⟩ = false := by
  unfold Blk at h
  simp [World.frozen?, h]
theorem Blk.new (w : World) (t : TypeId) (cs : Array Value) : Blk (w.alloc (.cells cs t)) w.heap.size t cs := heap_alloc_new w _
theorem Blk.drew (h : Blk w g t cs) : Blk w.drew g t cs := h
theorem Blk.drewN (h : Blk w g t cs) (n : Nat) : Blk (w.drewN n) g t cs := h
theorem Blk.alloc (h : Blk w g t cs) (o : Obj) : Blk (w.alloc o) g t cs := (Below.heap_alloc w o g h.lt).trans h
theorem Blk.set_ (h : Blk w g t cs) (i : Nat) (u : Value) : Blk (w.setCell ⟨g, i, none⟩ u) g t (cs.setIfInBounds i u) := by
  unfold Blk at h ⊢
  simp [World.setCell, Array.getElem?_modify, h]
theorem Blk.below {B : Nat} (h : Blk w g t cs) (hb : Below B w w') (hg : g < B) : Blk w' g t cs := (hb.block g hg).trans h
theorem Blk.grown {row : Option Nat} (h : Blk w g t cs) (hb : w.grownBy w' row) (hg : some g ≠ row) : Blk w' g t cs := (hb.block g h.lt hg).trans h
end

theorem Blk.below' {w w' : World} {g : Nat} {t : TypeId} {cs : Array Value} (h : Blk w g t cs) (hb : Below w.heap.size w w') : Blk w' g t cs := h.below hb h.lt
theorem own_slice {w : World} {base : Nat} {e : TypeId} {size n : Nat} {v : Value} {xs : List Value} (h : w.ownsRow base e size v n xs) : ∃ a cap, v = .slice a n cap := by
  rcases h.2 with ⟨rfl, rfl⟩ | ⟨g, cap, cur, rfl, _⟩
  · exact ⟨none, 0, rfl⟩
  · exact ⟨_, cap, rfl⟩
theorem own_cells {w : World} {base : Nat} {e : TypeId} {n : Nat} {a : Option Addr} {c : Nat} {xs : List Value} (h : w.ownsRow base e 1 (.slice a n c) n xs) (hn : 0 < n) : ∃ g, a = some ⟨g, 0, none⟩ ∧ base ≤ g ∧ g < w.heap.size ∧ ∀ j (hj : j < xs.length), w.cell? ⟨g, j, none⟩ = some xs[j] := by
  rcases h.2 with ⟨h1, h2⟩ | ⟨g, cap, cur, h1, hb, hg, hnc, hcm, hcs, htake⟩
  · omega
  · injection h1 with h1 _ _
    subst h1
    refine ⟨g, rfl, hb, (Array.getElem?_eq_some_iff.1 hg).1, fun j hj => ?_⟩
    rw [cell_of_row w g j cur e (0, 0) hg]
    subst htake
    simp only [List.length_take] at hj
    rw [List.getElem_take, ← Array.getElem?_toList, List.getElem?_eq_getElem (by omega)]

/-- The value v is a slice of int that reads as xs. -/
def RI (w : World) (v : Value) (xs : List Int) : Prop :=
  ∃ a c, v = .slice a xs.length c ∧ (0 < xs.length → ∃ b off, a = some ⟨b, off, none⟩ ∧ b < w.heap.size ∧ ∀ j (_h : j < xs.length), w.cell? ⟨b, off + j, none⟩ = some (.int .i64 (xs.getD j 0)))
theorem RI.below {w w' : World} {v : Value} {xs : List Int} (h : RI w v xs) (hb : Below w.heap.size w w') : RI w' v xs := by
  obtain ⟨a, c, hv, hr⟩ := h
  refine ⟨a, c, hv, fun h0 => ?_⟩
  obtain ⟨b, off, ha, hlt, hc⟩ := hr h0
  exact ⟨b, off, ha, Nat.lt_of_lt_of_le hlt hb.size, fun j hj => (hb.cell (p := ⟨b, off + j, none⟩) hlt).trans (hc j hj)⟩
theorem RI.of_own {w : World} {base : Nat} {v : Value} {n : Nat} {xs : List Int} (h : w.ownsRow base 3 1 v n (xs.map (Value.int .i64))) : RI w v xs := by
  obtain ⟨a, c, rfl⟩ := own_slice h
  have hn : n = xs.length := by have := h.1; simp at this; omega
  subst hn
  refine ⟨a, c, rfl, fun h0 => ?_⟩
  obtain ⟨g, ha, _, hlt, hc⟩ := own_cells h h0
  refine ⟨g, 0, ha, hlt, fun j hj => ?_⟩
  have := hc j (by simpa using hj)
  rw [Nat.zero_add, this]
  simp [List.getD, hj]

theorem info_int : (Tryz.prog.info? 3).map (fun i => (i.zero, i.size, i.bytes)) = some (some (.int .i64 0), 1, 8) := by kernel_rfl
/-- A slice of structs of nf integers (int) that came in. -/
def IsRows (nf : Nat) (w : World) (a : Option Addr) (len cap : Nat) (z : Nat → Nat → Int) : Prop :=
  len ≤ cap ∧ cap ≤ maxLen ∧ (0 < len → ∃ b off, a = some ⟨b, off, none⟩ ∧ b < w.heap.size ∧ ∀ i, i < len → ∀ j, j < nf → w.cell? ⟨b, off + i * nf + j, none⟩ = some (.int .i64 (z i j)) ∧ (Lit.int .i64 (z i j)).wf = true)

end Go.Proofs.YtmacpjnkmkaloaaGreat
namespace Go.Proofs.YtmacpjnkmkaloaaGreat
set_option linter.unusedSimpArgs false
set_option linter.unusedVariables false
set_option linter.unnecessarySimpa false
open Go.RowKit

/-- Blocks of A that were there are as they were. -/
structure Keeps (A : Nat → Prop) (w w' : World) : Prop where
  os : w'.os = w.os
  tape : w'.tape = w.tape
  output : w'.output = w.output
  size : w.heap.size ≤ w'.heap.size
  block : ∀ b, b < w.heap.size → A b → w'.heap[b]? = w.heap[b]?
theorem Keeps.refl (A : Nat → Prop) (w : World) : Keeps A w w := ⟨rfl, rfl, rfl, Nat.le_refl _, fun _ _ _ => rfl⟩
theorem Keeps.mono {A B : Nat → Prop} {w w' : World} (h : Keeps A w w') (hb : ∀ b, b < w.heap.size → B b → A b) : Keeps B w w' := ⟨h.os, h.tape, h.output, h.size, fun b h1 h2 => h.block b h1 (hb b h1 h2)⟩
theorem Keeps.trans {A : Nat → Prop} {a b c : World} (h : Keeps A a b) (k : Keeps A b c) : Keeps A a c :=
  ⟨k.os.trans h.os, k.tape.trans h.tape, k.output.trans h.output, Nat.le_trans h.size k.size, fun i h1 h2 => (k.block i (Nat.lt_of_lt_of_le h1 h.size) h2).trans (h.block i h1 h2)⟩
theorem Keeps.below {A : Nat → Prop} {w w' : World} (h : Below w.heap.size w w') : Keeps A w w' := ⟨h.os, h.tape, h.output, h.size, fun b h1 _ => h.block b h1⟩
theorem Keeps.drewN {A : Nat → Prop} (w : World) (n : Nat) : Keeps A w (w.drewN n) := ⟨rfl, rfl, rfl, Nat.le_refl _, fun _ _ _ => rfl⟩
theorem Keeps.drew {A : Nat → Prop} (w : World) : Keeps A w w.drew := ⟨rfl, rfl, rfl, Nat.le_refl _, fun _ _ _ => rfl⟩
theorem Keeps.alloc {A : Nat → Prop} (w : World) (o : Obj) : Keeps A w (w.alloc o) := ⟨rfl, rfl, rfl, by simp, fun b h1 _ => Below.heap_alloc w o b h1⟩
theorem Keeps.setCell {A : Nat → Prop} (w : World) (p : Addr) (v : Value) (h : ¬ A p.block) : Keeps A w (w.setCell p v) :=
  ⟨rfl, rfl, rfl, by simp [World.setCell], fun b _ h2 => Below.heap_setCell w p v b (fun e => h (e ▸ h2))⟩
theorem Keeps.grown {A : Nat → Prop} {w w' : World} {row : Option Nat} (h : w.grownBy w' row) (hr : ∀ k, row = some k → ¬ A k) : Keeps A w w' :=
  ⟨h.os, h.tape, h.output, h.size, fun b h1 h2 => h.block b h1 (fun e => hr b e.symm h2)⟩

/-- A part of memory: the blocks A are it. -/
structure Res where
  at_ : (Nat → Prop) → World → Prop
  lt : ∀ {A w}, at_ A w → ∀ b, A b → b < w.heap.size
  keep : ∀ {A w w'}, at_ A w → Keeps A w w' → at_ A w'

def SepD (w : World) : List Res → (Nat → Prop) → Prop
  | [], _ => True
  | r :: rs, D => ∃ A, r.at_ A w ∧ (∀ b, A b → ¬ D b) ∧ SepD w rs (fun b => D b ∨ A b)

theorem SepD.mono {w : World} : ∀ {rs : List Res} {D E : Nat → Prop}, SepD w rs D → (∀ b, b < w.heap.size → E b → D b) → SepD w rs E
  | [], _, _, _, _ => trivial
  | r :: _, _, _, ⟨A, h1, h2, h3⟩, he => ⟨A, h1, fun b ha hb => h2 b ha (he b (r.lt h1 b ha) hb), h3.mono (fun b hl hb => hb.elim (fun h => .inl (he b hl h)) .inr)⟩
theorem SepD.keep {w w' : World} : ∀ {rs : List Res} {D : Nat → Prop}, SepD w rs D → Keeps (fun b => ¬ D b) w w' → SepD w' rs (fun b => D b ∨ w.heap.size ≤ b)
  | [], _, _, _ => trivial
  | r :: rs, D, ⟨A, h1, h2, h3⟩, hk => by
    refine ⟨A, r.keep h1 (hk.mono fun b _ => h2 b), fun b ha hb => hb.elim (h2 b ha) (fun h => by have := r.lt h1 b ha; omega), ?_⟩
    have := SepD.keep (rs := rs) h3 (w' := w') (hk.mono fun b _ hb h => hb (.inl h))
    exact this.mono (fun b _ hb => hb.elim (fun h => h.elim (fun h => .inl (.inl h)) .inr) (fun h => .inl (.inr h)))
theorem SepD.swap {w : World} {r s : Res} {rs : List Res} {D : Nat → Prop} (h : SepD w (r :: s :: rs) D) : SepD w (s :: r :: rs) D := by
  obtain ⟨A, a1, a2, B, b1, b2, h3⟩ := h
  exact ⟨B, b1, fun b hb hd => b2 b hb (.inl hd), A, a1, fun b ha hd => hd.elim (a2 b ha) (fun hb => b2 b hb (.inr ha)), h3.mono (fun b _ hb => hb.elim (fun h => h.elim (fun h => .inl (.inl h)) .inr) (fun h => .inl (.inr h)))⟩
theorem SepD.cons {w : World} {r : Res} {rs rs' : List Res} {D : Nat → Prop} (f : ∀ D, SepD w rs D → SepD w rs' D) (h : SepD w (r :: rs) D) : SepD w (r :: rs') D := by
  obtain ⟨A, a1, a2, h3⟩ := h
  exact ⟨A, a1, a2, f _ h3⟩
theorem SepD.perm {w : World} {rs rs' : List Res} (h : rs.Perm rs') : ∀ {D : Nat → Prop}, SepD w rs D → SepD w rs' D := by
  induction h with
  | nil => exact fun h => h
  | cons x _ ih => exact fun h => SepD.cons (fun _ => ih) h
  | swap x y l => exact fun h => SepD.swap h
  | trans _ _ i1 i2 => exact fun h => i2 (i1 h)

/-- Parts that share no block. -/
structure Sep (w : World) (rs : List Res) : Prop where
  out : SepD w rs (fun _ => False)
section
variable {w w' : World} {r r' s t u v x y z : Res} {rs : List Res}
theorem Sep.nil (w : World) : Sep w [] := ⟨trivial⟩
theorem Sep.perm {rs'} (h : Sep w rs) (hp : rs.Perm rs') : Sep w rs' := ⟨SepD.perm hp h.out⟩
theorem Sep.bring (i : Nat) (h : Sep w rs) (hi : rs[i]? = some r) : Sep w (r :: rs.eraseIdx i) := by
  refine h.perm ?_
  clear h
  induction rs generalizing i with
  | nil => simp at hi
  | cons a l ih =>
    cases i with
    | zero => simp at hi; subst hi; exact List.Perm.refl _
    | succ i => exact ((ih i (by simpa using hi)).cons a).trans (List.Perm.swap _ _ _)
theorem Sep.to1 (h : Sep w (r :: s :: rs)) : Sep w (s :: r :: rs) := h.bring 1 rfl
theorem Sep.to2 (h : Sep w (r :: s :: t :: rs)) : Sep w (t :: r :: s :: rs) := h.bring 2 rfl
theorem Sep.to3 (h : Sep w (r :: s :: t :: u :: rs)) : Sep w (u :: r :: s :: t :: rs) := h.bring 3 rfl
theorem Sep.to4 (h : Sep w (r :: s :: t :: u :: v :: rs)) : Sep w (v :: r :: s :: t :: u :: rs) := h.bring 4 rfl
theorem Sep.tail (h : Sep w (r :: rs)) : Sep w rs := by
  obtain ⟨A, h1, h2, h3⟩ := h.out
  exact ⟨h3.mono fun _ _ h => .inl h⟩
theorem Sep.kept (h : Sep w rs) (hk : Keeps (fun _ => True) w w') : Sep w' rs := ⟨(h.out.keep (hk.mono fun _ _ _ => trivial)).mono fun _ _ h => .inl h⟩
theorem Sep.below (h : Sep w rs) (hb : Below w.heap.size w w') : Sep w' rs := h.kept (Keeps.below hb)
theorem Sep.drewN (h : Sep w rs) (n : Nat) : Sep (w.drewN n) rs := h.kept (Keeps.drewN w n)
theorem Sep.drew (h : Sep w rs) : Sep w.drew rs := h.kept (Keeps.drew w)
theorem Sep.allocG (h : Sep w rs) (o : Obj) : Sep (w.alloc o) rs := h.kept (Keeps.alloc w o)
/-- What the first part is, and how to put another one in its place. -/
theorem Sep.open_ (h : Sep w (r :: rs)) : ∃ A, r.at_ A w ∧ ∀ w' r' A', r'.at_ A' w' → Keeps (fun b => ¬ A b) w w' → (∀ b, A' b → A b ∨ w.heap.size ≤ b) → Sep w' (r' :: rs) := by
  obtain ⟨A, h1, h2, h3⟩ := h.out
  refine ⟨A, h1, fun w' r' A' k1 k2 k3 => ⟨A', k1, fun _ _ h => h, ?_⟩⟩
  have := h3.keep (w' := w') (k2.mono fun b _ hb h => hb (.inr h))
  exact this.mono fun b _ hb => hb.elim False.elim fun h => (k3 b h).elim (fun h => .inl (.inr h)) .inr
theorem Sep.new {A : Nat → Prop} (h : Sep w rs) (hr : r.at_ A w') (hk : Keeps (fun _ => True) w w') (ha : ∀ b, A b → w.heap.size ≤ b) : Sep w' (r :: rs) := by
  refine ⟨A, hr, fun _ _ h => h, ?_⟩
  have := h.out.keep (w' := w') (hk.mono fun _ _ _ => trivial)
  exact this.mono fun b _ hb => hb.elim False.elim fun h => .inr (ha b h)
end

/-- Parts that are not wanted any more fall away. -/
theorem Sep.drop1 {w : World} {r s : Res} {rs : List Res} (h : Sep w (r :: s :: rs)) : Sep w (r :: rs) := h.to1.tail
theorem Sep.drop2 {w : World} {r s t : Res} {rs : List Res} (h : Sep w (r :: s :: t :: rs)) : Sep w (r :: s :: rs) := h.to2.tail
/-- What was there at the start. -/
def old (w0 : World) : Res where
  at_ A w := (∀ b, A b ↔ b < w0.heap.size) ∧ Below w0.heap.size w0 w
  lt h b hb := Nat.lt_of_lt_of_le ((h.1 b).1 hb) h.2.size
  keep h k := ⟨h.1, h.2.trans ⟨k.os, k.tape, k.output, k.size, fun b hb => k.block b (Nat.lt_of_lt_of_le hb h.2.size) ((h.1 b).2 hb)⟩⟩
theorem Sep.start (w : World) : Sep w [old w] := ⟨_, ⟨fun _ => Iff.rfl, Below.refl _ _⟩, fun _ _ h => h, trivial⟩
theorem Sep.gold {w w0 : World} {rs : List Res} (h : Sep w (old w0 :: rs)) : Below w0.heap.size w0 w := by
  obtain ⟨A, h1, _⟩ := h.out
  exact h1.2

/-- What is new beside what was there, beside parts of what was there. -/
theorem Sep.graft {w w' : World} {r : Res} {rs : List Res} (h : Sep w' [r, old w]) (k : Sep w rs) : Sep w' (r :: rs) := by
  obtain ⟨A, h1, _, B, ⟨hB, hb⟩, h2, _⟩ := h.out
  refine ⟨A, h1, fun _ _ h => h, ?_⟩
  have := k.out.keep (w' := w') (Keeps.below hb)
  exact this.mono fun b _ hb' => hb'.elim False.elim fun ha => .inr (by
    rcases Nat.lt_or_ge b w.heap.size with hlt | hge
    · exact absurd (Or.inr ha) (h2 b ((hB b).2 hlt))
    · exact hge)

/-- A block known whole. -/
def blk (g : Nat) (t : TypeId) (cs : Array Value) : Res where
  at_ A w := (∀ b, A b ↔ b = g) ∧ Blk w g t cs
  lt h b hb := ((h.1 b).1 hb) ▸ h.2.lt
  keep h k := ⟨h.1, (k.block _ h.2.lt ((h.1 _).2 rfl)).trans h.2⟩
section
variable {w w' : World} {g : Nat} {t : TypeId} {cs : Array Value} {rs : List Res}
theorem Sep.gblk (h : Sep w (blk g t cs :: rs)) : Blk w g t cs := by
  obtain ⟨A, h1, _⟩ := h.out
  exact h1.2
theorem Sep.blk_ne {g' : Nat} {t' : TypeId} {cs' : Array Value} (h : Sep w (blk g t cs :: blk g' t' cs' :: rs)) : g ≠ g' := by
  obtain ⟨A, h1, _, B, h2, h3, _⟩ := h.out
  rintro rfl
  exact h3 g ((h2.1 g).2 rfl) (.inr ((h1.1 g).2 rfl))
theorem Sep.set (h : Sep w (blk g t cs :: rs)) (i : Nat) (v : Value) : Sep (w.setCell ⟨g, i, none⟩ v) (blk g t (cs.setIfInBounds i v) :: rs) := by
  obtain ⟨A, h1, h2⟩ := h.open_
  exact h2 _ _ A ⟨h1.1, h1.2.set_ i v⟩ (Keeps.setCell _ _ _ (fun h => h ((h1.1 _).2 rfl))) (fun _ => .inl)
theorem Sep.b1 {x0 : Value} (h : Sep w (blk g t #[x0] :: rs)) : g < w.heap.size ∧ w.cell? ⟨g, 0, none⟩ = some x0 ∧ w.frozen? ⟨g, 0, none⟩ = false := ⟨h.gblk.lt, h.gblk.cell 0, h.gblk.frozen 0⟩
theorem Sep.b2 {x0 x1 : Value} (h : Sep w (blk g t #[x0, x1] :: rs)) : g < w.heap.size ∧ w.cell? ⟨g, 0, none⟩ = some x0 ∧ w.cell? ⟨g, 1, none⟩ = some x1 ∧ w.frozen? ⟨g, 0, none⟩ = false ∧ w.frozen? ⟨g, 1, none⟩ = false := ⟨h.gblk.lt, h.gblk.cell 0, h.gblk.cell 1, h.gblk.frozen 0, h.gblk.frozen 1⟩
theorem Sep.b3 {x0 x1 x2 : Value} (h : Sep w (blk g t #[x0, x1, x2] :: rs)) : g < w.heap.size ∧ w.cell? ⟨g, 0, none⟩ = some x0 ∧ w.cell? ⟨g, 1, none⟩ = some x1 ∧ w.cell? ⟨g, 2, none⟩ = some x2 ∧ w.frozen? ⟨g, 0, none⟩ = false ∧ w.frozen? ⟨g, 1, none⟩ = false ∧ w.frozen? ⟨g, 2, none⟩ = false := ⟨h.gblk.lt, h.gblk.cell 0, h.gblk.cell 1, h.gblk.cell 2, h.gblk.frozen 0, h.gblk.frozen 1, h.gblk.frozen 2⟩
theorem Sep.b4 {x0 x1 x2 x3 : Value} (h : Sep w (blk g t #[x0, x1, x2, x3] :: rs)) : g < w.heap.size ∧ w.cell? ⟨g, 0, none⟩ = some x0 ∧ w.cell? ⟨g, 1, none⟩ = some x1 ∧ w.cell? ⟨g, 2, none⟩ = some x2 ∧ w.cell? ⟨g, 3, none⟩ = some x3 ∧ w.frozen? ⟨g, 0, none⟩ = false ∧ w.frozen? ⟨g, 1, none⟩ = false ∧ w.frozen? ⟨g, 2, none⟩ = false ∧ w.frozen? ⟨g, 3, none⟩ = false := ⟨h.gblk.lt, h.gblk.cell 0, h.gblk.cell 1, h.gblk.cell 2, h.gblk.cell 3, h.gblk.frozen 0, h.gblk.frozen 1, h.gblk.frozen 2, h.gblk.frozen 3⟩
theorem Sep.b5 {x0 x1 x2 x3 x4 : Value} (h : Sep w (blk g t #[x0, x1, x2, x3, x4] :: rs)) : g < w.heap.size ∧ w.cell? ⟨g, 0, none⟩ = some x0 ∧ w.cell? ⟨g, 1, none⟩ = some x1 ∧ w.cell? ⟨g, 2, none⟩ = some x2 ∧ w.cell? ⟨g, 3, none⟩ = some x3 ∧ w.cell? ⟨g, 4, none⟩ = some x4 ∧ w.frozen? ⟨g, 0, none⟩ = false ∧ w.frozen? ⟨g, 1, none⟩ = false ∧ w.frozen? ⟨g, 2, none⟩ = false ∧ w.frozen? ⟨g, 3, none⟩ = false ∧ w.frozen? ⟨g, 4, none⟩ = false := ⟨h.gblk.lt, h.gblk.cell 0, h.gblk.cell 1, h.gblk.cell 2, h.gblk.cell 3, h.gblk.cell 4, h.gblk.frozen 0, h.gblk.frozen 1, h.gblk.frozen 2, h.gblk.frozen 3, h.gblk.frozen 4⟩
theorem Sep.b9 {x0 x1 x2 x3 x4 x5 x6 x7 x8 : Value} (h : Sep w (blk g t #[x0, x1, x2, x3, x4, x5, x6, x7, x8] :: rs)) : g < w.heap.size ∧ w.cell? ⟨g, 0, none⟩ = some x0 ∧ w.cell? ⟨g, 1, none⟩ = some x1 ∧ w.cell? ⟨g, 2, none⟩ = some x2 ∧ w.cell? ⟨g, 3, none⟩ = some x3 ∧ w.cell? ⟨g, 4, none⟩ = some x4 ∧ w.cell? ⟨g, 5, none⟩ = some x5 ∧ w.cell? ⟨g, 6, none⟩ = some x6 ∧ w.cell? ⟨g, 7, none⟩ = some x7 ∧ w.cell? ⟨g, 8, none⟩ = some x8 ∧ w.frozen? ⟨g, 0, none⟩ = false ∧ w.frozen? ⟨g, 1, none⟩ = false ∧ w.frozen? ⟨g, 2, none⟩ = false ∧ w.frozen? ⟨g, 3, none⟩ = false ∧ w.frozen? ⟨g, 4, none⟩ = false ∧ w.frozen? ⟨g, 5, none⟩ = false ∧ w.frozen? ⟨g, 6, none⟩ = false ∧ w.frozen? ⟨g, 7, none⟩ = false ∧ w.frozen? ⟨g, 8, none⟩ = false := ⟨h.gblk.lt, h.gblk.cell 0, h.gblk.cell 1, h.gblk.cell 2, h.gblk.cell 3, h.gblk.cell 4, h.gblk.cell 5, h.gblk.cell 6, h.gblk.cell 7, h.gblk.cell 8, h.gblk.frozen 0, h.gblk.frozen 1, h.gblk.frozen 2, h.gblk.frozen 3, h.gblk.frozen 4, h.gblk.frozen 5, h.gblk.frozen 6, h.gblk.frozen 7, h.gblk.frozen 8⟩
theorem Sep.alloc (h : Sep w rs) (cs : Array Value) (t : TypeId) : Sep (w.alloc (.cells cs t)) (blk w.heap.size t cs :: rs) :=
  h.new (A := fun b => b = w.heap.size) ⟨fun _ => Iff.rfl, Blk.new w t cs⟩ (Keeps.alloc w _) (fun b hb => by omega)
end

/-- A slice of the call's own. -/
def vec (e : TypeId) (size : Nat) (v : Value) (n : Nat) (xs : List Value) : Res where
  at_ A w := (∀ b, A b ↔ v.ownBlock = some b) ∧ w.ownsRow 0 e size v n xs
  lt h b hb := (h.2.lt b ((h.1 b).1 hb)).2
  keep {A w w'} h k := by
    refine ⟨h.1, h.2.1, ?_⟩
    rcases h.2.2 with hn | ⟨g, cap, cur, rfl, hb, hg, rest⟩
    · exact .inl hn
    · refine .inr ⟨g, cap, cur, rfl, hb, ?_, rest⟩
      rw [k.block g (Array.getElem?_eq_some_iff.1 hg).1 ((h.1 g).2 rfl)]
      exact hg
section
variable {w w' : World} {e : TypeId} {size n : Nat} {v : Value} {xs : List Value} {rs : List Res}
theorem Sep.gvec (h : Sep w (vec e size v n xs :: rs)) : w.ownsRow 0 e size v n xs := by
  obtain ⟨A, h1, _⟩ := h.out
  exact h1.2
theorem Sep.vec_nil (h : Sep w rs) (e : TypeId) (size : Nat) : Sep w (vec e size (.slice none 0 0) 0 [] :: rs) :=
  h.new (A := fun _ => False) ⟨fun b => by simp [Value.ownBlock], World.ownsRow_nil _ _ _ _⟩ (Keeps.refl _ _) (fun b hb => hb.elim)
theorem Sep.vec_put {v' : Value} {n' : Nat} {xs' : List Value} (h : Sep w (vec e size v n xs :: rs)) (ho : w'.ownsRow 0 e size v' n' xs') (hg : w.grownBy w' v.ownBlock) (hb : v'.ownBlock = v.ownBlock ∨ v'.ownBlock = some w.heap.size) :
    Sep w' (vec e size v' n' xs' :: rs) := by
  obtain ⟨A, h1, h2⟩ := h.open_
  refine h2 _ _ (fun b => v'.ownBlock = some b) ⟨fun _ => Iff.rfl, ho⟩ (Keeps.grown hg fun k hk hA => hA ((h1.1 k).2 hk)) (fun b hb' => ?_)
  rcases hb with hb | hb
  · exact .inl ((h1.1 b).2 (hb ▸ hb'))
  · rw [hb] at hb'; injection hb' with hb'; exact .inr (by omega)
theorem Sep.vec_new {v' : Value} {n' : Nat} {xs' : List Value} (h : Sep w rs) (ho : w'.ownsRow w.heap.size e size v' n' xs') (hb : Below w.heap.size w w') : Sep w' (vec e size v' n' xs' :: rs) := by
  refine h.new (A := fun b => v'.ownBlock = some b) ⟨fun _ => Iff.rfl, ho.1, ?_⟩ (Keeps.below hb) (fun b hb' => (ho.lt b hb').1)
  rcases ho.2 with hn | ⟨g, cap, cur, hv, _, rest⟩
  · exact .inl hn
  · exact .inr ⟨g, cap, cur, hv, Nat.zero_le _, rest⟩
/-- The slice as a block. -/
theorem Sep.vec_blk {g c : Nat} (h : Sep w (vec e size (.slice (some ⟨g, 0, none⟩) n c) n xs :: rs)) : ∃ cur : Array Value, Sep w (blk g e cur :: rs) ∧ n ≤ c ∧ c ≤ maxLen ∧ cur.size = c * size ∧ cur.toList.take (n * size) = xs := by
  obtain ⟨A, h1, h2⟩ := h.open_
  rcases h1.2.2 with ⟨hv, _⟩ | ⟨g', cap, cur, hv, _, hg, hnc, hcm, hcs, ht⟩
  · cases hv
  · injection hv with e1 e2 e3
    injection e1 with e1
    injection e1 with e1
    subst e1 e3
    exact ⟨cur, h2 w _ A ⟨fun b => by rw [h1.1]; simp [Value.ownBlock, eq_comm], hg⟩ (Keeps.refl _ _) (fun _ => .inl), hnc, hcm, hcs, ht⟩
theorem Sep.blk_vec {g c : Nat} {cur : Array Value} (h : Sep w (blk g e cur :: rs)) (hl : xs.length = n * size) (hnc : n ≤ c) (hcm : c ≤ maxLen) (hcs : cur.size = c * size) (ht : cur.toList.take (n * size) = xs) :
    Sep w (vec e size (.slice (some ⟨g, 0, none⟩) n c) n xs :: rs) := by
  obtain ⟨A, h1, h2⟩ := h.open_
  exact h2 w _ A ⟨fun b => by rw [h1.1]; simp [Value.ownBlock, eq_comm], hl, .inr ⟨g, c, cur, rfl, Nat.zero_le _, h1.2, hnc, hcm, hcs, ht⟩⟩ (Keeps.refl _ _) (fun _ => .inl)
theorem Sep.vec_set {g c k : Nat} (h : Sep w (vec e size (.slice (some ⟨g, 0, none⟩) n c) n xs :: rs)) (_hk : k < xs.length) (u : Value) : Sep (w.setCell ⟨g, k, none⟩ u) (vec e size (.slice (some ⟨g, 0, none⟩) n c) n (xs.set k u) :: rs) := by
  have hl := h.gvec.1
  obtain ⟨cur, hS, hnc, hcm, hcs, ht⟩ := h.vec_blk
  refine (hS.set k u).blk_vec (by simpa using hl) hnc hcm (by simpa using hcs) ?_
  rw [Array.toList_setIfInBounds, List.take_set, ht]
theorem Sep.vec_shrink {g c k : Nat} (h : Sep w (vec e size (.slice (some ⟨g, 0, none⟩) n c) n xs :: rs)) (hk : k ≤ n) : Sep w (vec e size (.slice (some ⟨g, 0, none⟩) k c) k (xs.take (k * size)) :: rs) := by
  have hl := h.gvec.1
  obtain ⟨cur, hS, hnc, hcm, hcs, ht⟩ := h.vec_blk
  have hkn : k * size ≤ n * size := Nat.mul_le_mul_right _ hk
  refine hS.blk_vec (by rw [List.length_take, hl]; omega) (by omega) hcm hcs ?_
  rw [← ht, List.take_take, Nat.min_eq_left hkn]
theorem Sep.vec_ne {g c g' : Nat} {t' : TypeId} {cs' : Array Value} (h : Sep w (vec e size (.slice (some ⟨g, 0, none⟩) n c) n xs :: blk g' t' cs' :: rs)) : g ≠ g' := by
  obtain ⟨cur, hS, _⟩ := h.vec_blk
  exact hS.blk_ne
theorem Sep.vec_cell {g c k : Nat} (h : Sep w (vec e size (.slice (some ⟨g, 0, none⟩) n c) n xs :: rs)) {u : Value} (hk : xs[k]? = some u) : w.cell? ⟨g, k, none⟩ = some u ∧ w.frozen? ⟨g, k, none⟩ = false ∧ g < w.heap.size := by
  obtain ⟨cur, hS, hnc, hcm, hcs, ht⟩ := h.vec_blk
  refine ⟨?_, hS.gblk.frozen k, hS.gblk.lt⟩
  have := h.gvec.cells (g := g) rfl k u hk
  rw [Addr.add_lit, Nat.zero_add] at this
  exact this
/-- What is appended: nothing, or cells behind an address. -/
def SrcA (w : World) (size : Nat) (x : Value) (m : Nat) (news : List Value) : Prop :=
  (x = .slice none 0 0 ∧ m = 0 ∧ news = []) ∨ (∃ ad c, x = .slice (some ad) m c ∧ news.length = m * size ∧ (∀ j u, news[j]? = some u → w.cell? (ad.add j) = some u))
theorem SrcA.one (w : World) (x : Value) (t : TypeId) (c : Nat) : SrcA (w.alloc (.cells #[x] t)) 1 (.slice (some ⟨w.heap.size, 0, none⟩) 1 c) 1 [x] := .inr ⟨_, _, rfl, rfl, cell_one_new w x t⟩
theorem SrcA.below {x : Value} {m : Nat} {news : List Value} (h : SrcA w size x m news) (hb : Below w.heap.size w w') : SrcA w' size x m news := by
  rcases h with h | ⟨ad, c, hx, hl, hc⟩
  · exact .inl h
  · refine .inr ⟨ad, c, hx, hl, fun j u hu => ?_⟩
    have h1 := hc j u hu
    have h2 := World.block_lt_of_cell? _ _ h1
    exact (hb.cell (p := ad.add j) h2).trans h1
theorem SrcA.own {b2 : Nat} {x : Value} {m : Nat} {news : List Value} (h2 : w.ownsRow b2 e size x m news) : SrcA w size x m news := by
  rcases h2.2 with ⟨rfl, rfl⟩ | ⟨g, cap, cur, rfl, _, hg, hnc, _⟩
  · have hn : news = [] := List.eq_nil_of_length_eq_zero (by have := h2.1; simpa using this)
    subst hn
    exact .inl ⟨rfl, rfl, rfl⟩
  · exact .inr ⟨_, _, rfl, h2.1, fun j u hu => h2.cells (g := g) rfl j u hu⟩
theorem SrcA.ri {x : Value} {zs : List Int} (h : RI w x zs) (hc : zs.length = 0 → x = .slice none 0 0) : SrcA w 1 x zs.length (zs.map (Value.int .i64)) := by
  obtain ⟨a, c, rfl, hr⟩ := h
  by_cases h0 : 0 < zs.length
  · obtain ⟨b, off, rfl, _, hc⟩ := hr h0
    refine .inr ⟨_, _, rfl, by simp, fun j u hu => ?_⟩
    have hj : j < zs.length := by
      rcases Nat.lt_or_ge j zs.length with h | h
      · exact h
      · rw [List.getElem?_eq_none (by simpa using h)] at hu; cases hu
    rw [Addr.add_lit]
    rw [hc j hj]
    simp [hj] at hu
    rw [← hu]
    simp [List.getD, hj]
  · have h1 : zs.length = 0 := by omega
    exact .inl ⟨hc h1, h1, by simp [List.eq_nil_of_length_eq_zero h1]⟩
theorem run_append_sep {P : Program} (hS : Sep w (vec e size v n xs :: rs)) (t ty : TypeId)
    (i : TypeInfo) (z : Value) (bytes : Nat) (ht : P.underlying t = some (.slice e)) (hi : P.info? e = some i) (hz : i.zero = some z)
    (hsize : i.size = size) (hby : i.bytes = bytes) (hzs : z.cells.size = size) (hsz : 0 < size)
    (x : Value) (m : Nat) (news : List Value) (hx : SrcA w size x m news) (h1 : ∀ u ∈ news, u.oneCell' = true)
    (h63 : n + m ≤ maxLen) (hbytes : (n + m) * bytes ≤ 140737488355328) :
    ∃ (a' : Option Addr) (c' : Nat) (w' : World), (Builtin.append_ #[t, t] ty #[v, x]).run P w = .ok (.slice a' (n + m) c') w' ∧ Sep w' (vec e size (.slice a' (n + m) c') (n + m) (xs ++ news) :: rs) := by
  rcases hx with ⟨rfl, rfl, rfl⟩ | ⟨ad, c, rfl, hl, hnews⟩
  · obtain ⟨a', c', rfl⟩ := own_slice hS.gvec
    exact ⟨a', c', w, run_append_owned_none (P := P) w 0 t ty e i size ht hi _ n xs hS.gvec, by simpa using hS⟩
  · obtain ⟨v', w', hr, k1, k2, _, k4⟩ := run_append_own_at (P := P) w 0 t ty e i z size bytes ht hi hz hsize hby hzs hsz v n xs hS.gvec ad m c news hl hnews h1 h63 hbytes (Nat.zero_le _)
    obtain ⟨a', c', rfl⟩ := own_slice k1
    exact ⟨a', c', w', hr, hS.vec_put k1 k2 k4⟩
theorem wp_append_sep {P : Program} {o : Oper} {a : Act} {K : Act → World → Prop} {Q : Exit → Act → World → Prop} (hS : Sep w (vec e size v n xs :: rs)) (s x : Operand) (t : TypeId)
    (ho : o.op = .call { callee := .builtin .append, args := #[s, x], argTypes := #[t, t] })
    (i : TypeInfo) (z : Value) (bytes : Nat) (ht : P.underlying t = some (.slice e)) (hi : P.info? e = some i) (hz : i.zero = some z)
    (hsize : i.size = size) (hby : i.bytes = bytes) (hzs : z.cells.size = size) (hsz : 0 < size)
    (hs : a.eval s = v)
    (m : Nat) (news : List Value) (hx : SrcA w size (a.eval x) m news) (h1 : ∀ u ∈ news, u.oneCell' = true)
    (h63 : n + m ≤ maxLen) (hbytes : (n + m) * bytes ≤ 140737488355328)
    (h : ∀ (a' : Option Addr) (c' : Nat) w', Sep w' (vec e size (.slice a' (n + m) c') (n + m) (xs ++ news) :: rs) → K (a.put o.dst (.slice a' (n + m) c')) w') : o.wp P a w K Q := by
  obtain ⟨a', c', w', hr, hS'⟩ := run_append_sep (P := P) hS t o.type i z bytes ht hi hz hsize hby hzs hsz _ m news hx h1 h63 hbytes
  unfold Oper.wp execOp
  simp only [ho, resolve, invoke, builtin, Sem.run_bind, Sem.run_pure, Result.andThen_ok, List.map_toArray, List.map_cons, List.map_nil, hs, hr]
  exact h a' c' w' hS'
/-- The same at a step of a region that draws its order. -/
theorem step_append_sep {P : Program} {ops : Array Oper} {o : Oper} {a : Act} {K : Act → World → Prop} {Q : Exit → Act → World → Prop} {E : Prop} (hS : Sep w (vec e size v n xs :: rs)) (hw : Region.wanted o (yielded ops a.tmps) = true) (s x : Operand) (t : TypeId)
    (ho : o.op = .call { callee := .builtin .append, args := #[s, x], argTypes := #[t, t] })
    (i : TypeInfo) (z : Value) (bytes : Nat) (ht : P.underlying t = some (.slice e)) (hi : P.info? e = some i) (hz : i.zero = some z)
    (hsize : i.size = size) (hby : i.bytes = bytes) (hzs : z.cells.size = size) (hsz : 0 < size)
    (hs : a.eval s = v)
    (m : Nat) (news : List Value) (hx : SrcA w size (a.eval x) m news) (h1 : ∀ u ∈ news, u.oneCell' = true)
    (h63 : n + m ≤ maxLen) (hbytes : (n + m) * bytes ≤ 140737488355328)
    (h : ∀ (a' : Option Addr) (c' : Nat) w', Sep w' (vec e size (.slice a' (n + m) c') (n + m) (xs ++ news) :: rs) → K (a.put o.dst (.slice a' (n + m) c')) w') :
    if Region.wanted o (yielded ops a.tmps) = true then Oper.wp P o a w K Q else E := by
  rw [if_pos hw]
  exact wp_append_sep hS s x t ho i z bytes ht hi hz hsize hby hzs hsz hs m news hx h1 h63 hbytes h
/-- Append to a slice of the call's own, guarded or not. -/
theorem wpList_append_sep {P : Program} {ops : Array Oper} {rest : List Oper} {o : Oper} {a : Act} {Q : Exit → Act → World → Prop} (hS : Sep w (vec e size v n xs :: rs)) (hw : Region.wanted o (yielded ops a.tmps) = true) (s x : Operand) (t : TypeId)
    (ho : o.op = .call { callee := .builtin .append, args := #[s, x], argTypes := #[t, t] })
    (i : TypeInfo) (z : Value) (bytes : Nat) (ht : P.underlying t = some (.slice e)) (hi : P.info? e = some i) (hz : i.zero = some z)
    (hsize : i.size = size) (hby : i.bytes = bytes) (hzs : z.cells.size = size) (hsz : 0 < size)
    (hs : a.eval s = v)
    (m : Nat) (news : List Value) (hx : SrcA w size (a.eval x) m news) (h1 : ∀ u ∈ news, u.oneCell' = true)
    (h63 : n + m ≤ maxLen) (hbytes : (n + m) * bytes ≤ 140737488355328)
    (h : ∀ (a' : Option Addr) (c' : Nat) w', Sep w' (vec e size (.slice a' (n + m) c') (n + m) (xs ++ news) :: rs) → wpList P ops Q rest (a.put o.dst (.slice a' (n + m) c')) w') :
    wpList P ops Q (o :: rest) a w := by
  unfold wpList
  rw [if_pos hw]
  exact .inl (wp_append_sep hS s x t ho i z bytes ht hi hz hsize hby hzs hsz hs m news hx h1 h63 hbytes h)
end

theorem Sep.vec_ri {w : World} {e n : Nat} {v : Value} {xs : List Int} {rs : List Res} (h : Sep w (vec e 1 v n (xs.map (Value.int .i64)) :: rs)) : RI w v xs := by
  obtain ⟨a, c, rfl⟩ := own_slice h.gvec
  have hn : n = xs.length := by have := h.gvec.1; simp at this; omega
  subst hn
  refine ⟨a, c, rfl, fun h0 => ?_⟩
  obtain ⟨g, ha, _, hlt, hc⟩ := own_cells h.gvec h0
  refine ⟨g, 0, ha, hlt, fun j hj => ?_⟩
  have := hc j (by simpa using hj)
  rw [Nat.zero_add, this]
  simp [List.getD, hj]

/-- Two parts as one. -/
def star (r s : Res) : Res where
  at_ A w := ∃ B C, (∀ b, A b ↔ B b ∨ C b) ∧ (∀ b, C b → ¬ B b) ∧ r.at_ B w ∧ s.at_ C w
  lt h b hb := by
    obtain ⟨B, C, h1, _, h2, h3⟩ := h
    exact ((h1 b).1 hb).elim (r.lt h2 b) (s.lt h3 b)
  keep h k := by
    obtain ⟨B, C, h1, h0, h2, h3⟩ := h
    exact ⟨B, C, h1, h0, r.keep h2 (k.mono fun b _ hb => (h1 b).2 (.inl hb)), s.keep h3 (k.mono fun b _ hb => (h1 b).2 (.inr hb))⟩
theorem Sep.gstar {w : World} {r s : Res} {rs : List Res} : Sep w (star r s :: rs) ↔ Sep w (r :: s :: rs) := by
  constructor
  · intro h
    obtain ⟨A, ⟨B, C, h1, h0, h2, h3⟩, _, k3⟩ := h.out
    exact ⟨B, h2, fun _ _ h => h, C, h3, fun b hc hb => hb.elim id (h0 b hc), k3.mono fun b _ hb => .inr ((h1 b).2 (hb.elim (fun h => h.elim False.elim .inl) .inr))⟩
  · intro h
    obtain ⟨B, h2, _, C, h3, h0, k3⟩ := h.out
    exact ⟨fun b => B b ∨ C b, ⟨B, C, fun _ => Iff.rfl, fun b hc hb => h0 b hc (.inr hb), h2, h3⟩, fun _ _ h => h, k3.mono fun b _ hb => hb.elim (fun h => h.elim) fun h => h.elim (fun h => .inl (.inr h)) .inr⟩

end Go.Proofs.YtmacpjnkmkaloaaGreat
namespace Go.Proofs.YtmacpjnkmkaloaaGreat
set_option linter.unusedSimpArgs false
set_option linter.unusedVariables false
set_option linter.unnecessarySimpa false
open Go.RowKit

structure Rq where
  id : Int
  txn : Int
  mode : Int
  want : Int
  since : Int
  deriving DecidableEq, Inhabited
def Rq.val (r : Rq) : Value := .agg #[.int .i64 r.id, .int .i64 r.txn, .int .i64 r.mode, .int .i64 r.want, .int .i64 r.since]
def Rq.cells (r : Rq) : List Value := [.int .i64 r.id, .int .i64 r.txn, .int .i64 r.mode, .int .i64 r.want, .int .i64 r.since]
def qcells (l : List Rq) : List Value := l.flatMap Rq.cells
/-- The value v is a slice of requests that reads as l. -/
def RQ (w : World) (v : Value) (l : List Rq) : Prop :=
  ∃ a c, v = .slice a l.length c ∧ l.length ≤ c ∧ (a = none → c = 0) ∧ (0 < l.length → ∃ b off, a = some ⟨b, off, none⟩ ∧ b < w.heap.size ∧ ∀ j, j < l.length →
    w.cell? ⟨b, off + j * 5, none⟩ = some (.int .i64 (l.getD j default).id) ∧ w.cell? ⟨b, off + j * 5 + 1, none⟩ = some (.int .i64 (l.getD j default).txn) ∧ w.cell? ⟨b, off + j * 5 + 2, none⟩ = some (.int .i64 (l.getD j default).mode) ∧
    w.cell? ⟨b, off + j * 5 + 3, none⟩ = some (.int .i64 (l.getD j default).want) ∧ w.cell? ⟨b, off + j * 5 + 4, none⟩ = some (.int .i64 (l.getD j default).since))
theorem RQ.below {w w' : World} {v : Value} {l : List Rq} (h : RQ w v l) (hb : Below w.heap.size w w') : RQ w' v l := by
  obtain ⟨a, c, hv, hc, hna, hr⟩ := h
  refine ⟨a, c, hv, hc, hna, fun h0 => ?_⟩
  obtain ⟨b, off, ha, hlt, hz⟩ := hr h0
  have k : ∀ o, w'.cell? ⟨b, o, none⟩ = w.cell? ⟨b, o, none⟩ := fun o => hb.cell (p := ⟨b, o, none⟩) hlt
  exact ⟨b, off, ha, Nat.lt_of_lt_of_le hlt hb.size, fun j hj => by rw [k, k, k, k, k]; exact hz j hj⟩
theorem belT {w w1 w2 : World} (h : Below w.heap.size w w1) (h' : Below w1.heap.size w1 w2) : Below w.heap.size w w2 := h.trans (h'.mono h.size)

theorem belA {w w1 : World} (o : Obj) (h : Below (w.alloc o).heap.size (w.alloc o) w1) : Below w.heap.size w w1 := belT ((Below.refl _ _).alloc (Nat.le_refl _) o) h
/-- A boxed request behind calls that only make memory. -/
theorem cellsA {w w1 : World} {a0 a1 a2 a3 a4 : Value} {t : TypeId} (h : Below (w.alloc (.cells #[a0, a1, a2, a3, a4] t)).heap.size (w.alloc (.cells #[a0, a1, a2, a3, a4] t)) w1) (b0 b1 b2 b3 b4 : Value) (e : #[a0, a1, a2, a3, a4] = #[b0, b1, b2, b3, b4]) :
    w1.cell? ⟨w.heap.size, 0, none⟩ = some b0 ∧ w1.cell? ⟨w.heap.size, 1, none⟩ = some b1 ∧ w1.cell? ⟨w.heap.size, 2, none⟩ = some b2 ∧ w1.cell? ⟨w.heap.size, 3, none⟩ = some b3 ∧ w1.cell? ⟨w.heap.size, 4, none⟩ = some b4 := by
  rw [e] at h
  have hb := (Blk.new w t #[b0, b1, b2, b3, b4]).below' h
  exact ⟨hb.cell 0, hb.cell 1, hb.cell 2, hb.cell 3, hb.cell 4⟩
theorem holds_any (r : Rq) (w : World) : Calls Tryz.prog 60 #[r.val] w fun e w' => e = .returned (.bool (r.mode != 0)) ∧ Below w.heap.size w w' := by
  obtain ⟨id, txn, mode, want, since⟩ := r
  unfold Rq.val
  go_enter Tryz.func60, Tryz.ntmps60
  go_wp2
  go_ret
  exact ⟨rfl, (Below.refl _ _).alloc (Nat.le_refl _) _⟩
theorem waits_any (r : Rq) (w : World) : Calls Tryz.prog 53 #[r.val] w fun e w' => e = .returned (.bool (decide (0 < r.since))) ∧ Below w.heap.size w w' := by
  obtain ⟨id, txn, mode, want, since⟩ := r
  unfold Rq.val
  go_enter Tryz.func53, Tryz.ntmps53
  go_wp2
  go_ret
  exact ⟨rfl, (Below.refl _ _).alloc (Nat.le_refl _) _⟩
def upB (r : Rq) : Bool := r.mode != 0 && decide (0 < r.since)
theorem upgrades_any (r : Rq) (w : World) : Calls Tryz.prog 55 #[r.val] w fun e w' => e = .returned (.bool (upB r)) ∧ Below w.heap.size w w' := by
  have H1 := Lib.hid (fun w => holds_any r w)
  have H2 := Lib.hid (fun w => waits_any r w)
  obtain ⟨id, txn, mode, want, since⟩ := r
  unfold Rq.val at *
  simp only at H1 H2
  by_cases h : mode = 0
  · subst h
    go_enter Tryz.func55, Tryz.ntmps55
    go_wp2_with fail
    refine (H1.out _).mono ?_
    rintro e w1 ⟨rfl, b1⟩
    replace b1 := Lib.hid b1
    go_wp2_with fail
    go_ret
    exact ⟨rfl, belA _ b1.out⟩
  · have h0 : (mode != 0) = true := by simpa using h
    have E := Lib.hid (show upB ⟨id, txn, mode, want, since⟩ = decide (0 < since) by simp only [upB, h0, Bool.true_and])
    rw [h0] at H1
    clear h
    go_enter Tryz.func55, Tryz.ntmps55
    go_wp2_with fail
    refine (H1.out _).mono ?_
    rintro e w1 ⟨rfl, b1⟩
    have c := cellsA b1 _ _ _ _ _ rfl
    obtain ⟨c0, c1, c2, c3, c4⟩ := c
    replace b1 := Lib.hid b1
    go_wp2_with fail
    refine (H2.out _).mono ?_
    rintro e w2 ⟨rfl, b2⟩
    replace b1 := Lib.hid (belT (belA _ b1.out) b2)
    clear b2 c0 c1 c2 c3 c4
    go_wp2_with fail
    go_ret
    exact ⟨by rw [E.out]; rfl, b1.out⟩
/-- What is asked of a function value that is called with requests. -/
def PredQ (g : Nat) (lb : Array Value) (p : Rq → Bool) (w : World) : Prop :=
  ∀ (W : World) (r : Rq), Below w.heap.size w W → Calls Tryz.prog g (#[r.val] ++ lb) W fun e w' => e = .returned (.bool (p r)) ∧ Below W.heap.size W w'
/-- Where the first one is that meets p; -1. -/
def idxF {α : Type} (p : α → Bool) : List α → Nat → Int
  | [], _ => -1
  | x :: l, k => if p x then (k : Int) else idxF p l (k + 1)
theorem drop_at (l : List Rq) (k : Nat) (h : k < l.length) : l.drop k = l.getD k default :: l.drop (k + 1) := by
  rw [List.drop_eq_getElem_cons h]
  simp [List.getD, h]
set_option maxHeartbeats 1000000 in
theorem index_any (v : Value) (l : List Rq) (g : Nat) (lb : Array Value) (p : Rq → Bool) (w : World) (hv : RQ w v l) (hl : l.length ≤ 1000) (hp : PredQ g lb p w)
    (eg : ∀ args w, (callFunc g args).run Tryz.prog w = .ok (.enter g args) w) :
    Calls Tryz.prog 62 #[v, .func (.func g) #[] lb] w fun e w' => e = .returned (.int .i64 (idxF p l 0)) ∧ Below w.heap.size w w' := by
  obtain ⟨a, c, rfl, hc, _, hr⟩ := hv
  have HR := Lib.hid hr
  have HP := Lib.hid hp
  clear hr hp
  generalize hn : l.length = n at *
  replace hn := Lib.hid hn
  go_enter Tryz.func62, Tryz.ntmps62
  go_wp2
  go_loopw [8] (fun i wr => ∃ k : Nat, k ≤ n ∧ i = .int .i64 k ∧ Hid (idxF p l 0 = idxF p (l.drop k) k) ∧ Hid (Below w.heap.size w wr)) (fun i _ => n - (intOf i).toNat)
  case atStart => exact ⟨0, Nat.zero_le _, rfl, rfl, Below.refl _ _⟩
  case round =>
    obtain ⟨k, hk, rfl, he, hb⟩ := hrel
    by_cases hlt : k < n
    · obtain ⟨b, off, rfl, hbl, hz⟩ := HR.out (by omega)
      obtain ⟨z0, z1, z2, z3, z4⟩ := hz k hlt
      have kk : ∀ o, wr.cell? ⟨b, o, none⟩ = w.cell? ⟨b, o, none⟩ := fun o => hb.out.cell (p := ⟨b, o, none⟩) hbl
      rw [← kk] at z0 z1 z2 z3 z4
      have E := Lib.hid (drop_at l k (by rw [hn.out]; exact hlt))
      generalize l.getD k default = r at *
      have hq := Lib.hid (HP.out wr r hb.out)
      clear kk hz HR
      obtain ⟨id, txn, mode, want, since⟩ := r
      simp only [Rq.val] at hq z0 z1 z2 z3 z4
      go_wp2_with fail
      refine hq.out.mono ?_
      rintro e w1 ⟨rfl, b1⟩
      replace hb := Lib.hid (hb.out.trans (b1.mono hb.out.size))
      clear z0 z1 z2 z3 z4 b1 hq
      cases hpr : p ⟨id, txn, mode, want, since⟩ with
      | true =>
        have E2 := Lib.hid (show idxF p l 0 = (k : Int) by rw [he.out, E.out]; simp only [idxF, hpr, if_true])
        go_wp2_with fail
        go_ret
        exact ⟨by rw [E2.out]; rfl, hb.out⟩
      | false =>
        have E2 := Lib.hid (show idxF p l 0 = idxF p (l.drop (k + 1)) (k + 1) by rw [he.out, E.out]; simp only [idxF, hpr]; rfl)
        go_wp2_with fail
        go_roundw
        case rel => exact ⟨k + 1, by omega, by go_num, E2, hb⟩
        case measure => simp [intOf]; omega
    · have hk2 : k = n := by omega
      have E := Lib.hid (show idxF p l 0 = -1 by rw [he.out, List.drop_eq_nil_of_le (by rw [hn.out]; omega)]; rfl)
      clear he
      go_wp2_with fail
      go_ret
      exact ⟨by rw [E.out]; rfl, hb.out⟩
theorem idxF_any {α : Type} (p : α → Bool) : ∀ (l : List α) (k : Nat), decide (0 ≤ idxF p l k) = l.any p
  | [], k => by simp [idxF]
  | x :: l, k => by
    unfold idxF
    cases h : p x with
    | true => simp [h]
    | false => simp [h, idxF_any p l (k + 1)]
theorem contains_any (v : Value) (l : List Rq) (g : Nat) (lb : Array Value) (p : Rq → Bool) (w : World) (hv : RQ w v l) (hl : l.length ≤ 1000) (hp : PredQ g lb p w)
    (eg : ∀ args w, (callFunc g args).run Tryz.prog w = .ok (.enter g args) w) :
    Calls Tryz.prog 35 #[v, .func (.func g) #[] lb] w fun e w' => e = .returned (.bool (l.any p)) ∧ Below w.heap.size w w' := by
  have H := Lib.hid (index_any v l g lb p w hv hl hp eg)
  obtain ⟨a, c, rfl, _⟩ := hv
  rw [← idxF_any p l 0]
  clear hp eg
  generalize idxF p l 0 = x at *
  go_enter Tryz.func35, Tryz.ntmps35
  go_wp2_with fail
  refine H.out.mono ?_
  rintro e w1 ⟨rfl, b1⟩
  replace b1 := Lib.hid b1
  go_wp2_with fail
  go_ret
  exact ⟨rfl, b1.out⟩
end Go.Proofs.YtmacpjnkmkaloaaGreat
namespace Go.Proofs.YtmacpjnkmkaloaaGreat
set_option linter.unusedSimpArgs false
set_option linter.unusedVariables false
set_option linter.unnecessarySimpa false
open Go.RowKit
theorem qcells_len (l : List Rq) : (qcells l).length = l.length * 5 := by
  induction l with
  | nil => rfl
  | cons r l ih => simp only [qcells, List.flatMap_cons, List.length_append, List.length_cons] at *; rw [ih, Rq.cells]; simp; omega
theorem qcells_at (l : List Rq) (j : Nat) (h : j < l.length) : ∀ f, f < 5 → (qcells l)[j * 5 + f]? = (Rq.cells (l.getD j default))[f]? := by
  induction l generalizing j with
  | nil => simp at h
  | cons r l ih =>
    intro f hf
    cases j with
    | zero => simp only [qcells, List.flatMap_cons]; rw [Nat.zero_mul, Nat.zero_add, List.getElem?_append_left (by simp [Rq.cells]; omega)]; rfl
    | succ j =>
      simp only [qcells, List.flatMap_cons]
      rw [List.getElem?_append_right (by simp [Rq.cells]; omega)]
      have := ih j (by simpa using h) f hf
      simp only [qcells] at this
      rw [show (j + 1) * 5 + f - r.cells.length = j * 5 + f by simp [Rq.cells]; omega, this]
      simp [List.getD]
theorem qcells_one (l : List Rq) : ∀ u ∈ qcells l, u.oneCell' = true := by
  intro u hu
  simp only [qcells, List.mem_flatMap] at hu
  obtain ⟨r, _, hu⟩ := hu
  simp only [Rq.cells, List.mem_cons, List.not_mem_nil, or_false] at hu
  rcases hu with rfl | rfl | rfl | rfl | rfl <;> rfl
theorem RQ.src {w : World} {v : Value} {l : List Rq} (h : RQ w v l) : SrcA w 5 v l.length (qcells l) := by
  obtain ⟨a, c, rfl, hc, hna, hr⟩ := h
  cases a with
  | none =>
    have h0 : l.length = 0 := by
      rcases Nat.eq_zero_or_pos l.length with h | h
      · exact h
      · obtain ⟨b, off, h, _⟩ := hr h; cases h
    have hl := List.eq_nil_of_length_eq_zero h0
    subst hl
    exact .inl ⟨by rw [hna rfl]; rfl, rfl, rfl⟩
  | some ad =>
    refine .inr ⟨ad, c, rfl, qcells_len l, fun j u hu => ?_⟩
    have hj : j < l.length * 5 := by
      rcases Nat.lt_or_ge j (l.length * 5) with h | h
      · exact h
      · rw [List.getElem?_eq_none (by rw [qcells_len]; exact h)] at hu; cases hu
    obtain ⟨b, off, hb, _, hz⟩ := hr (by omega)
    injection hb with hb
    subst hb
    obtain ⟨z0, z1, z2, z3, z4⟩ := hz (j / 5) (by omega)
    rw [Addr.add_lit]
    have hq := qcells_at l (j / 5) (by omega) (j % 5) (by omega)
    rw [show j / 5 * 5 + j % 5 = j by omega, hu] at hq
    have e : off + j = off + j / 5 * 5 + j % 5 := by omega
    rw [e]
    have h5 : j % 5 = 0 ∨ j % 5 = 1 ∨ j % 5 = 2 ∨ j % 5 = 3 ∨ j % 5 = 4 := by omega
    rcases h5 with h | h | h | h | h <;> rw [h] at hq ⊢ <;> simp only [Rq.cells, List.getElem?_cons_zero, List.getElem?_cons_succ] at hq <;> rw [hq] <;> assumption
theorem RQ.of_own {w : World} {base : Nat} {v : Value} {l : List Rq} (h : w.ownsRow base 42 5 v l.length (qcells l)) : RQ w v l := by
  rcases h.2 with ⟨hv, h0⟩ | ⟨g, cap, cur, rfl, _, hg, hnc, _⟩
  · subst hv
    have hl := List.eq_nil_of_length_eq_zero h0
    subst hl
    exact ⟨none, 0, rfl, Nat.le_refl _, fun _ => rfl, fun h => absurd h (by simp)⟩
  · refine ⟨some ⟨g, 0, none⟩, cap, rfl, hnc, (fun h => by cases h), fun _ => ⟨g, 0, rfl, (Array.getElem?_eq_some_iff.1 hg).1, fun j hj => ?_⟩⟩
    have key : ∀ f, f < 5 → ∀ u, (Rq.cells (l.getD j default))[f]? = some u → w.cell? ⟨g, 0 + j * 5 + f, none⟩ = some u := by
      intro f hf u hu
      have := h.cells (g := g) rfl (j * 5 + f) u (by rw [qcells_at l j hj f hf]; exact hu)
      rw [Addr.add_lit] at this
      rw [show 0 + j * 5 + f = 0 + (j * 5 + f) by omega]
      exact this
    exact ⟨key 0 (by omega) _ rfl, key 1 (by omega) _ rfl, key 2 (by omega) _ rfl, key 3 (by omega) _ rfl, key 4 (by omega) _ rfl⟩
theorem info_req : (Tryz.prog.info? 42).map (fun i => (i.zero, i.size, i.bytes)) = some (some (.agg #[.int .i64 0, .int .i64 0, .int .i64 0, .int .i64 0, .int .i64 0]), 5, 40) := by kernel_rfl

/-- A copy of requests, in memory of its own. -/
def vq (v : Value) (l : List Rq) : Res := vec 42 5 v l.length (qcells l)
theorem Sep.vq_rq {w : World} {v : Value} {l : List Rq} {rs : List Res} (h : Sep w (vq v l :: rs)) : RQ w v l := RQ.of_own h.gvec
theorem Sep.vq_at {w : World} {a : Option Addr} {m c i : Nat} {l : List Rq} {rs : List Res} (h : Sep w (vq (.slice a m c) l :: rs)) (hl : l.length = m) (hi : i < m) :
    ∃ g, a = some ⟨g, 0, none⟩ ∧ g < w.heap.size ∧ m ≤ c ∧ w.cell? ⟨g, i * 5, none⟩ = some (.int .i64 (l.getD i default).id) ∧ w.cell? ⟨g, i * 5 + 1, none⟩ = some (.int .i64 (l.getD i default).txn) ∧ w.cell? ⟨g, i * 5 + 2, none⟩ = some (.int .i64 (l.getD i default).mode) ∧
      w.cell? ⟨g, i * 5 + 3, none⟩ = some (.int .i64 (l.getD i default).want) ∧ w.cell? ⟨g, i * 5 + 4, none⟩ = some (.int .i64 (l.getD i default).since) ∧ ∀ o, w.frozen? ⟨g, o, none⟩ = false := by
  subst hl
  unfold vq at h
  rcases h.gvec.2 with ⟨_, h0⟩ | ⟨g, cap, cur, hv, _⟩
  · omega
  · injection hv with e1 _ e3
    subst e1 e3
    have key : ∀ f, f < 5 → ∀ u, (Rq.cells (l.getD i default))[f]? = some u → w.cell? ⟨g, i * 5 + f, none⟩ = some u := fun f hf u hu => (h.vec_cell (by rw [qcells_at l i hi f hf]; exact hu)).1
    obtain ⟨cur', hb, hnc, _⟩ := h.vec_blk
    exact ⟨g, rfl, hb.gblk.lt, hnc, key 0 (by omega) _ rfl, key 1 (by omega) _ rfl, key 2 (by omega) _ rfl, key 3 (by omega) _ rfl, key 4 (by omega) _ rfl, fun o => hb.gblk.frozen o⟩
theorem clone_any (v : Value) (l : List Rq) (w : World) (hv : RQ w v l) (hl : l.length ≤ 1000) :
    Calls Tryz.prog 78 #[v] w fun e w' => ∃ a c, e = .returned (.slice a l.length c) ∧ Sep w' [vq (.slice a l.length c) l, old w] := by
  have hS := hv.src
  have h1 := qcells_one l
  obtain ⟨a, c, rfl, hc, hna, hr⟩ := hv
  obtain ⟨i0, hi, hz0, hz1, hz2⟩ := info_parts info_req
  cases a with
  | none =>
    rcases hS with ⟨h, h0, hq⟩ | ⟨ad, c', h, _⟩
    · have hl := List.eq_nil_of_length_eq_zero h0
      subst hl
      obtain rfl : c = 0 := hna rfl
      have fin := Lib.hid (show Sep w [vq (.slice none 0 0) [], old w] from (Sep.start w).vec_nil _ _)
      have hn := Lib.run_eql_slice_nil (P := Tryz.prog)
      clear hr h hq hna
      go_enter Tryz.func78, Tryz.ntmps78
      go_wp2
      go_ret
      exact ⟨_, _, rfl, fin.out⟩
    · cases h
  | some ad =>
    have hn := Lib.run_eql_slice_nil (P := Tryz.prog)
    replace hS := Lib.hid hS
    replace h1 := Lib.hid h1
    clear hr hna
    go_enter Tryz.func78, Tryz.ntmps78
    have hE := Lib.hid (show Sep (w.alloc (.cells #[] 42)) [vec 42 5 (.slice (some ⟨w.heap.size, 0, none⟩) 0 0) 0 [], old w] from
      (Sep.start w).vec_new (World.ownsRow_made w #[] 0 (Nat.le_refl _) (Nat.zero_le _) rfl) ((Below.refl _ _).alloc (Nat.le_refl _) _))
    have hS2 := Lib.hid (show SrcA (w.alloc (.cells #[] 42)) 5 (.slice (some ad) l.length c) l.length (qcells l) from hS.out.below ((Below.refl _ _).alloc (Nat.le_refl _) _))
    generalize hn : l.length = n at *
    replace hn := Lib.hid hn
    go_wp2_with (at_builtin; refine wpList_append_sep hE.out rfl _ _ 24 rfl i0 _ 40 Tryz.underlying24 hi hz0 hz1 hz2 rfl (by decide) rfl n (qcells l) hS2.out h1.out ?c3 ?c4 ?_)
    case c3 => simp only [maxLen]; omega
    case c4 => omega
    intro a' c' w1 hS1
    replace hS1 := Lib.hid hS1
    go_wp2_with fail
    go_ret
    exact ⟨a', c', by simp, by unfold vq; rw [hn.out]; exact hS1.out⟩
def hval (t r : Int) (q : Value) (n : Int) : Value := .agg #[.int .i64 t, .int .i64 r, q, .int .i64 n]
theorem own_any (t r n : Int) (v : Value) (l : List Rq) (w : World) (hv : RQ w v l) (hl : l.length ≤ 1000) :
    Calls Tryz.prog 43 #[hval t r v n] w fun e w' => ∃ a c, e = .returned (hval t r (.slice a l.length c) n) ∧ Sep w' [vq (.slice a l.length c) l, old w] := by
  have h0 : ∀ b1 b2, Sep ((w.alloc (.cells b1 26)).alloc (.cells b2 62)) [blk (w.heap.size + 1) 62 b2, blk w.heap.size 26 b1, old w] := fun b1 b2 => by
    have := ((Sep.start w).alloc b1 26).alloc b2 62
    simpa using this
  have H := Lib.hid (fun b1 b2 => clone_any v l ((w.alloc (.cells b1 26)).alloc (.cells b2 62)) (hv.below ((Below.refl _ _).alloc (Nat.le_refl _) _ |>.alloc (by simp) _)) hl)
  replace h0 := Lib.hid h0
  obtain ⟨a, c, rfl, _⟩ := hv
  unfold hval
  go_enter Tryz.func43, Tryz.ntmps43
  go_wp2_with fail
  refine (H.out _ _).mono ?_
  rintro e w1 ⟨a', c', rfl, hS⟩
  have hT := hS.graft (h0.out _ _)
  obtain ⟨z1, d0, d1, d2, d3, g0, g1, g2, g3⟩ := hT.to1.b4
  obtain ⟨z2, c0, c1, c2, c3, _, _, f2, _⟩ := hT.to2.b4
  replace hT := Lib.hid hT
  clear hS H h0
  go_wp2_with fail
  refine bodyPost_ret (v := .agg #[.int .i64 t, .int .i64 r, .slice a' l.length c', .int .i64 n]) (by simp [results, Tryz.results43, go_sem, *]) rfl ⟨_, _, rfl, ?_⟩
  exact ((((((hT.out.to2.set 2 _).to2.set 0 _).set 1 _).set 2 _).set 3 _)).tail.tail
end Go.Proofs.YtmacpjnkmkaloaaGreat
