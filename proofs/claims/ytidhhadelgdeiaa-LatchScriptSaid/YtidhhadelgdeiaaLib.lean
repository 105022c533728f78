import Derived.Test.YtidhhadelgdeiaaRows
import Derived.WalkKit
import Derived.WalkSpells
import Derived.Deep.QuietTactic
import Derived.BigQuiet
import Derived.Lib.Hide
namespace Go.Proofs.Ytidhhadelgdeiaa
open Go.RowKit

/-- Block g is just the cells cs of element type t, none frozen. -/
def Blk (w : World) (g : Nat) (t : TypeId) (cs : Array Value) : Prop := w.heap[g]? = some (.cells cs t (0, 0))
section
variable {w w' : World} {g : Nat} {t : TypeId} {cs : Array Value}
theorem Blk.lt (h : Blk w g t cs) : g < w.heap.size := by
  rcases Nat.lt_or_ge g w.heap.size with hlt | hge
  · exact hlt
  · unfold Blk at h; rw [Array.getElem?_eq_none hge] at h; cases h
theorem Blk.cell (h : Blk w g t cs) (i : Nat) : w.cell? ⟨g, i, none⟩ = cs[i]? := cell_of_row w g i cs t (0, 0) h
theorem Blk.frozen (h : Blk w g t cs) (i : Nat) : w.frozen? ⟨g, i, none⟩ = false := by
  unfold Blk at h
  simp [World.frozen?, h]
theorem Blk.new (w : World) (t : TypeId) (cs : Array Value) : Blk (w.alloc (.cells cs t)) w.heap.size t cs := heap_alloc_new w _
theorem Blk.drew (h : Blk w g t cs) : Blk w.drew g t cs := h
theorem Blk.drewN (h : Blk w g t cs) (n : Nat) : Blk (w.drewN n) g t cs := h
theorem Blk.alloc (h : Blk w g t cs) (o : Obj) : Blk (w.alloc o) g t cs := (Below.heap_alloc w o g h.lt).trans h
theorem Blk.set_ (h : Blk w g t cs) (i : Nat) (u : Value) : Blk (w.setCell ⟨g, i, none⟩ u) g t (cs.setIfInBounds i u) := by
  unfold Blk at h ⊢
  simp [World.setCell, Array.getElem?_modify, h]
theorem Blk.far (h : Blk w g t cs) {p : Addr} (hp : g ≠ p.block) (u : Value) : Blk (w.setCell p u) g t cs := (Below.heap_setCell w p u g hp).trans h
theorem Blk.below {B : Nat} (h : Blk w g t cs) (hb : Below B w w') (hg : g < B) : Blk w' g t cs := (hb.block g hg).trans h
theorem Blk.grown {row : Option Nat} (h : Blk w g t cs) (hb : w.grownBy w' row) (hg : some g ≠ row) : Blk w' g t cs := (hb.block g h.lt hg).trans h
theorem Blk.ne_ {g' : Nat} {t' : TypeId} {cs' : Array Value} (h : Blk w g t cs) (h' : Blk w g' t' cs') (hne : t ≠ t') : g ≠ g' := by
  rintro rfl
  unfold Blk at h h'
  rw [h] at h'
  injection h' with h'
  injection h' with _ ht
  exact hne ht
end

/-- One latch's cell: free (-1), or a holder's block. -/
def LCell (w : World) (s : Int) (v : Value) : Prop :=
  (s = -1 ∧ v = .pointer none) ∨ (0 ≤ s ∧ ∃ h, v = .pointer (some ⟨h, 0, none⟩) ∧ Blk w h 51 #[.int .i64 s])

/-- Latches at p, their row at g; L: who holds each. -/
structure Lat (w : World) (p g : Nat) (L : List Int) : Prop where
  hp : Blk w p 48 #[.slice (some ⟨g, 0, none⟩) L.length L.length]
  hg : ∃ cs : Array Value, Blk w g 49 cs ∧ cs.size = L.length ∧ ∀ k (h : k < L.length), ∃ v, cs[k]? = some v ∧ LCell w L[k] v
  len : L.length ≤ 16

theorem LCell.grown {w w' : World} {s : Int} {v : Value} {g : Nat} {cs : Array Value} (h : LCell w s v) (hg : Blk w g 49 cs) (hb : w.grownBy w' (some g)) : LCell w' s v := by
  rcases h with h | ⟨h0, b, hv, hk⟩
  · exact .inl h
  · exact .inr ⟨h0, b, hv, hk.grown hb (fun e => by injection e with e; exact hk.ne_ hg (by decide) e)⟩

theorem Lat.grown_other {w w' : World} {p g g' : Nat} {L : List Int} {cs : Array Value} (h : Lat w p g L) (hg' : Blk w g' 49 cs) (hne : g ≠ g') (hb : w.grownBy w' (some g')) : Lat w' p g L := by
  obtain ⟨cs0, h0, hs, hc⟩ := h.hg
  refine ⟨h.hp.grown hb (fun e => by injection e with e; exact h.hp.ne_ hg' (by decide) e), ⟨cs0, h0.grown hb (fun e => by injection e with e; exact hne e), hs, fun k hk => ?_⟩, h.len⟩
  obtain ⟨v, hv, hl⟩ := hc k hk
  exact ⟨v, hv, hl.grown hg' hb⟩

theorem Lat.grown_none {w w' : World} {p g : Nat} {L : List Int} (h : Lat w p g L) (hb : w.grownBy w' none) : Lat w' p g L := by
  obtain ⟨cs0, h0, hs, hc⟩ := h.hg
  refine ⟨h.hp.grown hb (by simp), ⟨cs0, h0.grown hb (by simp), hs, fun k hk => ?_⟩, h.len⟩
  obtain ⟨v, hv, hl⟩ := hc k hk
  refine ⟨v, hv, ?_⟩
  rcases hl with h | ⟨h0, b, hv, hk⟩
  · exact .inl h
  · exact .inr ⟨h0, b, hv, hk.grown hb (by simp)⟩

/-- The new row after a store at k. -/
theorem Lat.store {w w' : World} {p g : Nat} {L : List Int} {cs : Array Value} (h : Lat w p g L) (hb : w.grownBy w' (some g)) (k : Nat) (hk : k < L.length) (v : Value) (s : Int)
   (h0 : Blk w g 49 cs) (h1 : Blk w' g 49 (cs.setIfInBounds k v)) (hv : LCell w' s v) : Lat w' p g (L.set k s) := by
  obtain ⟨cs', h0', hs, hc⟩ := h.hg
  have e : cs' = cs := by unfold Blk at h0 h0'; rw [h0] at h0'; injection h0' with h0'; injection h0' with a _; exact a.symm
  subst e
  refine ⟨?_, ⟨_, h1, by simpa using hs, fun j hj => ?_⟩, by simpa using h.len⟩
  · simp only [List.length_set]
    exact h.hp.grown hb (fun e => by injection e with e; exact h.hp.ne_ h0 (by decide) e)
  · simp only [List.length_set] at hj
    obtain ⟨u, hu, hl⟩ := hc j hj
    by_cases e : k = j
    · subst e
      refine ⟨v, ?_, by simpa using hv⟩
      rw [Array.getElem?_setIfInBounds, if_pos rfl, if_pos (by omega)]
    · refine ⟨u, ?_, ?_⟩
      · rw [Array.getElem?_setIfInBounds, if_neg e]; exact hu
      · simpa [List.getElem_set, e] using hl.grown h0 hb

theorem grown_refl (w : World) (r : Option Nat) : w.grownBy w r := ⟨rfl, rfl, rfl, Nat.le_refl _, fun _ _ _ => rfl⟩

end Go.Proofs.Ytidhhadelgdeiaa
