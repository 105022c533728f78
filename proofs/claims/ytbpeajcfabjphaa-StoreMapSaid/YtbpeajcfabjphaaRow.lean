/-
  Records as cells. No condition.
-/
import Derived.Test.YtbpeajcfabjphaaStoB
import Derived.Test.YtbpeajcfabjphaaRL
namespace Go.Proofs.Ytbpeajcfabjphaa
open Go.RowKit
def rowC (p : (Int × Int) × Int) : List Value := [.int .i64 p.1.1, .int .i64 p.1.2, .int .i64 p.2]
theorem rowC_len (p : (Int × Int) × Int) : (rowC p).length = 3 := rfl
theorem rows_one (L : Ent) : ∀ u ∈ L.flatMap rowC, u.oneCell' = true := by
  intro u hu
  obtain ⟨x, _, hx⟩ := List.mem_flatMap.1 hu
  simp [rowC] at hx
  rcases hx with rfl | rfl | rfl <;> rfl
theorem info_row : (Try.prog.info? 39).map (fun i => (i.zero, i.size, i.bytes)) = some (some (.agg #[.int .i64 0, .int .i64 0, .int .i64 0]), 3, 24) := by kernel_rfl
theorem row_cells {w : World} {a : Option Addr} {n c : Nat} {L : Ent} (hv : RL w (.slice a n c) 3 n (L.flatMap rowC)) (hn : L.length = n) (h0 : 0 < n) :
    ∃ b off, a = some ⟨b, off, none⟩ ∧ b < w.heap.size ∧ ∀ k x, L[k]? = some x → w.cell? ⟨b, off + (k * 3 + 0), none⟩ = some (.int .i64 x.1.1) ∧ w.cell? ⟨b, off + (k * 3 + 1), none⟩ = some (.int .i64 x.1.2) ∧ w.cell? ⟨b, off + (k * 3 + 2), none⟩ = some (.int .i64 x.2) := by
  subst hn
  obtain ⟨b, off, c', hv', _, hb, h⟩ := RL.at_ rowC_len hv h0
  injection hv' with e1 _ _
  exact ⟨b, off, e1, hb, fun k x hk => ⟨h k x hk 0 _ rfl, h k x hk 1 _ rfl, h k x hk 2 _ rfl⟩⟩
theorem srcA_row (w : World) (cs : Array Value) (t : TypeId) (c sz : Nat) (hz : cs.size = sz) : SrcA (w.alloc (.cells cs t)) sz (.slice (some ⟨w.heap.size, 0, none⟩) 1 c) 1 cs.toList := by
  refine .inr ⟨_, _, rfl, by simp [hz], fun j u hu => ?_⟩
  have h := ((Sep.start w).alloc cs t).gblk.cell j
  rw [Addr.add_lit, Nat.zero_add]
  rw [h, ← hu]
  simp
end Go.Proofs.Ytbpeajcfabjphaa
