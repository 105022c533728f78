/-
  A slice of the call's own that begins anywhere in its block (todo = todo[1:]), and append to it. No condition.
-/
import Derived.Test.YthbamhfnemdebaaSep
import Derived.Test.YthbamhfnemdebaaRL
import Derived.Deep.AppendSrc
namespace Go.Proofs.Ythbamhfnemdebaa
open Go.RowKit
def tailRow (w : World) (e : TypeId) (v : Value) (n : Nat) (xs : List Value) : Prop :=
  xs.length = n ∧ ∃ g k c cur, v = .slice (some ⟨g, k, none⟩) n c ∧ w.heap[g]? = some (.cells cur e (0, 0)) ∧ n ≤ c ∧ c ≤ maxLen ∧ k + c ≤ cur.size ∧ (cur.toList.drop k).take n = xs
def tl (e : TypeId) (v : Value) (n : Nat) (xs : List Value) : Res where
  at_ A w := (∀ b, A b ↔ v.ownBlock = some b) ∧ tailRow w e v n xs
  lt h b hb := by
    obtain ⟨h1, _, g, k, c, cur, rfl, hg, _⟩ := h
    have := (h1 b).1 hb
    simp only [Value.ownBlock, Option.some.injEq] at this
    subst this
    exact (Array.getElem?_eq_some_iff.1 hg).1
  keep {A w w'} h k := by
    obtain ⟨h1, h2, g, kk, c, cur, rfl, hg, rest⟩ := h
    refine ⟨h1, h2, g, kk, c, cur, rfl, ?_, rest⟩
    rw [k.block g (Array.getElem?_eq_some_iff.1 hg).1 ((h1 g).2 rfl)]
    exact hg
section
variable {w w' : World} {e : TypeId} {n : Nat} {v : Value} {xs : List Value} {rs : List Res}
theorem Sep.tl_blk (h : Sep w (tl e v n xs :: rs)) : ∃ g k c cur, v = .slice (some ⟨g, k, none⟩) n c ∧ Sep w (blk g e cur :: rs) ∧ n ≤ c ∧ c ≤ maxLen ∧ k + c ≤ cur.size ∧ (cur.toList.drop k).take n = xs ∧ xs.length = n := by
  obtain ⟨A, ⟨h1, h0, g, k, c, cur, rfl, hg, a1, a2, a3, a4⟩, h2⟩ := h.open_
  exact ⟨g, k, c, cur, rfl, h2 w _ A ⟨fun b => by rw [h1]; simp [Value.ownBlock, eq_comm], hg⟩ (Keeps.refl _ _) (fun _ => .inl), a1, a2, a3, a4, h0⟩
theorem Sep.blk_tl {g k c : Nat} {cur : Array Value} (h : Sep w (blk g e cur :: rs)) (a1 : n ≤ c) (a2 : c ≤ maxLen) (a3 : k + c ≤ cur.size) (a4 : (cur.toList.drop k).take n = xs) :
    Sep w (tl e (.slice (some ⟨g, k, none⟩) n c) n xs :: rs) := by
  obtain ⟨A, h1, h2⟩ := h.open_
  exact h2 w _ A ⟨fun b => by rw [h1.1]; simp [Value.ownBlock, eq_comm], by rw [← a4]; simp; omega, g, k, c, cur, rfl, h1.2, a1, a2, a3, a4⟩ (Keeps.refl _ _) (fun _ => .inl)
/-- A slice from its block's start. -/
theorem Sep.vec_tl {g c : Nat} (h : Sep w (vec e 1 (.slice (some ⟨g, 0, none⟩) n c) n xs :: rs)) : Sep w (tl e (.slice (some ⟨g, 0, none⟩) n c) n xs :: rs) := by
  obtain ⟨cur, hS, h1, h2, h3, h4⟩ := h.vec_blk
  exact hS.blk_tl h1 h2 (by omega) (by simpa using h4)
/-- The first element, and what is behind it. -/
theorem Sep.tl_head {g k c : Nat} {x : Value} (h : Sep w (tl e (.slice (some ⟨g, k, none⟩) (n + 1) c) (n + 1) (x :: xs) :: rs)) :
    w.cell? ⟨g, k, none⟩ = some x ∧ n + 1 ≤ c ∧ Sep w (tl e (.slice (some ⟨g, k + 1, none⟩) n (c - 1)) n xs :: rs) := by
  obtain ⟨g', k', c', cur, hv, hS, a1, a2, a3, a4, a5⟩ := h.tl_blk
  injection hv with e1 e2 e3
  injection e1 with e1
  injection e1 with e1 e1'
  subst e1 e1' e3
  have hk : cur.toList.drop k = x :: (cur.toList.drop (k + 1)) := by
    have hlt : k < cur.toList.length := by rw [Array.length_toList]; omega
    rw [List.drop_eq_getElem_cons hlt] at a4 ⊢
    rw [List.take_succ_cons] at a4
    injection a4 with b1 b2
    rw [b1]
  refine ⟨?_, a1, hS.blk_tl (by omega) (by omega) (by omega) ?_⟩
  · rw [hS.gblk.cell]
    have := congrArg (fun l : List Value => l[0]?) hk
    simpa [List.getElem?_drop] using this
  · rw [hk, List.take_succ_cons] at a4
    injection a4
theorem run_append_tl {P : Program} (hS : Sep w (tl e v n xs :: rs)) (t ty : TypeId)
    (i : TypeInfo) (z : Value) (bytes : Nat) (ht : P.underlying t = some (.slice e)) (hi : P.info? e = some i) (hz : i.zero = some z)
    (hsize : i.size = 1) (hby : i.bytes = bytes) (hzs : z.cells.size = 1)
    (x u : Value) (hx : SrcA w 1 x 1 [u]) (h1 : u.oneCell' = true)
    (h63 : n + 1 ≤ maxLen) (hbytes : (n + 1) * bytes ≤ 140737488355328) :
    ∃ (a' : Addr) (c' : Nat) (w' : World), (Builtin.append_ #[t, t] ty #[v, x]).run P w = .ok (.slice (some a') (n + 1) c') w' ∧ Sep w' (tl e (.slice (some a') (n + 1) c') (n + 1) (xs ++ [u]) :: rs) := by
  rcases hx with ⟨_, h0, _⟩ | ⟨ad, cx, rfl, hl, hnews⟩
  · cases h0
  have hone : ∀ u' ∈ [u], u'.oneCell' = true := fun u' hu => by rw [List.mem_singleton] at hu; subst hu; exact h1
  have hsrc := Src.ofSlice (P := P) w ht ad 1 cx [u] (size := i.size) (by rw [hsize]; rfl) hnews hone
  obtain ⟨g, k, c, cur, rfl, hB, a1, a2, a3, a4, a5⟩ := hS.tl_blk
  by_cases hroom : n + 1 ≤ c
  · have hr := run_append_room_src (P := P) w t t ty e i ht hi g k n c _ 1 [u] hsrc hroom
      (fun j hj => by rw [hsize, hB.gblk.cell]; simp at hj; subst hj; rw [Array.getElem?_eq_getElem (by omega)]; rfl) (fun j hj => hB.gblk.frozen _)
    refine ⟨_, _, _, hr, ?_⟩
    rw [hsize, Nat.mul_one]
    have hB2 := hB.set (k + n) u
    refine Sep.blk_tl (cur := cur.setIfInBounds (k + n) u) hB2 hroom a2 (by simpa using a3) ?_
    rw [Array.toList_setIfInBounds, List.drop_set]
    rw [if_neg (by omega), show k + n - k = n by omega]
    rw [List.take_succ_eq_append_getElem (by simp; omega), List.take_set_of_le (by omega), a4]
    simp
  · have hold : ∀ j q, xs[j]? = some q → w.cell? ((⟨g, k, none⟩ : Addr).add j) = some q := by
      intro j q hj
      rw [Addr.add_lit, hB.gblk.cell]
      rw [← a4] at hj
      have hjn : j < n := by
        rcases Nat.lt_or_ge j n with h | h
        · exact h
        · rw [List.getElem?_eq_none (by simp; omega)] at hj; cases hj
      rw [List.getElem?_take_of_lt hjn, List.getElem?_drop] at hj
      simpa using hj
    have hn63 : n + 1 ≤ 9223372036854775807 := by simp only [maxLen] at h63; omega
    have hr := run_append_grow_src (P := P) w t t ty e i z ht hi hz (some ⟨g, k, none⟩) n c xs
      (run_firstCells_some w.drew i.size n _ n c xs (by rw [hsize, a5, Nat.mul_one]) (by simpa using hold)) _ 1 [u] hsrc (by omega) (by omega) (growslice_fits (by omega) (by rw [hby]; exact hbytes))
    refine ⟨_, _, _, hr, ?_⟩
    have hge := grownCap_ge w (n + 1) c e
    have hcm : grownCap w (n + 1) c e ≤ maxLen := grownCap_le_maxLen w (n + 1) c e h63
    refine Sep.blk_tl (hS.tail.drew.alloc _ e) hge hcm ?_ ?_
    · simp [size_zeroCells, hzs, a5]
      omega
    · simp only [List.drop_zero, Array.toList_append]
      exact List.take_left' (by simp [a5])
theorem wpList_append_tl {P : Program} {ops : Array Oper} {rest : List Oper} {o : Oper} {a : Act} {Q : Exit → Act → World → Prop} (hS : Sep w (tl e v n xs :: rs)) (hg : o.guard = none) (s x : Operand) (t : TypeId)
    (ho : o.op = .call { callee := .builtin .append, args := #[s, x], argTypes := #[t, t] })
    (i : TypeInfo) (z : Value) (bytes : Nat) (ht : P.underlying t = some (.slice e)) (hi : P.info? e = some i) (hz : i.zero = some z)
    (hsize : i.size = 1) (hby : i.bytes = bytes) (hzs : z.cells.size = 1)
    (hs : a.eval s = v) (u : Value) (hx : SrcA w 1 (a.eval x) 1 [u]) (h1 : u.oneCell' = true)
    (h63 : n + 1 ≤ maxLen) (hbytes : (n + 1) * bytes ≤ 140737488355328)
    (h : ∀ (a' : Addr) (c' : Nat) w', Sep w' (tl e (.slice (some a') (n + 1) c') (n + 1) (xs ++ [u]) :: rs) → wpList P ops Q rest (a.put o.dst (.slice (some a') (n + 1) c')) w') :
    wpList P ops Q (o :: rest) a w := by
  refine wpList_plain hg fun K hK => ?_
  obtain ⟨a', c', w', hr, hS'⟩ := run_append_tl (P := P) hS t o.type i z bytes ht hi hz hsize hby hzs _ u hx h1 h63 hbytes
  unfold Oper.wp execOp
  simp only [ho, resolve, invoke, builtin, Sem.run_bind, Sem.run_pure, Result.andThen_ok, List.map_toArray, List.map_cons, List.map_nil, hs, hr]
  exact hK _ _ (h a' c' w' hS')
end
end Go.Proofs.Ythbamhfnemdebaa
