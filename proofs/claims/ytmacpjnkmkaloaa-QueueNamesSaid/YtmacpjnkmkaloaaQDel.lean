/-
  The contract of DeleteFunc over requests of one's own; the program's Leave. No condition beside requests that can be read.
-/
import Derived.Test.YtmacpjnkmkaloaaQMore
namespace Go.Proofs.Ytmacpjnkmkaloaa
open Go.RowKit
section
variable {w : World} {e : TypeId} {size n : Nat} {xs : List Value} {rs : List Res}
theorem run_clear_sep {P : Program} {g c : Nat} (hS : Sep w (vec e size (.slice (some ⟨g, 0, none⟩) n c) n xs :: rs)) (t ty : TypeId) (z : Value) (ht : P.underlying t = some (.slice e)) (hz : ∀ w : World, (zeroValue e).run P w = .ok z w)
    (hzs : z.cells.size = size) (hz1 : ∀ u ∈ z.cells.toList, u.oneCell' = true) (k : Nat) (hk : k < n) (c' : Nat) :
    ∃ w' ys, (Builtin.clear_ #[t] ty #[.slice (some ⟨g, k * size, none⟩) (n - k) c']).run P w = .ok (.tuple #[]) w' ∧ Sep w' (vec e size (.slice (some ⟨g, 0, none⟩) n c) n (xs.take (k * size) ++ ys) :: rs) := by
  have hl := hS.gvec.1
  obtain ⟨cur, hB, hnc, hcm, hcs, htk⟩ := hS.vec_blk
  have hg := hB.gblk
  have hzl : (Builtin.zeroCells z.cells (n - k)).toList.length = (n - k) * size := by rw [Array.length_toList, size_zeroCells, hzs]
  have hn : k * size + (n - k) * size = n * size := by rw [← Nat.add_mul]; congr 1; omega
  have hnc' : n * size ≤ c * size := Nat.mul_le_mul_right _ hnc
  have hst := run_storeCells_at P g (k * size) e (Builtin.zeroCells z.cells (n - k)).toList 0 cur w hg (by rw [hzl]; omega) (by
    intro u hu
    simp only [Builtin.zeroCells, Array.toList_map, List.mem_map, Array.toList_range, List.mem_range] at hu
    obtain ⟨j, hj, rfl⟩ := hu
    have hsz : 0 < z.cells.size := by
      rcases Nat.eq_zero_or_pos z.cells.size with h0 | h0
      · rw [h0] at hj; simp at hj
      · exact h0
    have hlt : j % z.cells.size < z.cells.size := Nat.mod_lt _ hsz
    have hm : z.cells[j % z.cells.size]! ∈ z.cells.toList := by
      rw [getElem!_pos z.cells _ hlt]
      exact Array.getElem_mem_toList hlt
    exact hz1 _ hm)
  simp only [Nat.add_zero] at hst
  refine ⟨w.setRow g (cur.toList.take (k * size) ++ (Builtin.zeroCells z.cells (n - k)).toList ++ cur.toList.drop (k * size + (Builtin.zeroCells z.cells (n - k)).toList.length)).toArray, (Builtin.zeroCells z.cells (n - k)).toList, ?_, ?_⟩
  · obtain ⟨d, hd⟩ : ∃ d, n - k = d + 1 := ⟨n - k - 1, by omega⟩
    rw [hd] at hst ⊢
    simp [Builtin.clear_, run_underlying ht, hz, hst]
  · obtain ⟨A, h1, h2⟩ := hB.open_
    have hS2 : Sep (w.setRow g (cur.toList.take (k * size) ++ (Builtin.zeroCells z.cells (n - k)).toList ++ cur.toList.drop (k * size + (Builtin.zeroCells z.cells (n - k)).toList.length)).toArray) (blk g e (cur.toList.take (k * size) ++ (Builtin.zeroCells z.cells (n - k)).toList ++ cur.toList.drop (k * size + (Builtin.zeroCells z.cells (n - k)).toList.length)).toArray :: rs) :=
      h2 _ _ A ⟨h1.1, setRow_heap w g cur _ e _ hg⟩ ⟨rfl, rfl, rfl, by simp, fun b _ hb => setRow_other w g b _ (fun e => hb ((h1.1 b).2 e))⟩ (fun _ => .inl)
    have hkn : k * size ≤ n * size := Nat.mul_le_mul_right _ (by omega)
    have hcl : cur.toList.length = c * size := by rw [Array.length_toList, hcs]
    refine hS2.blk_vec ?_ hnc hcm ?_ ?_
    · rw [List.length_append, List.length_take, hl, hzl]; omega
    · simp only [List.size_toArray, List.length_append, List.length_take, List.length_drop, hzl, hcl]; omega
    · have ht2 : (cur.toList.take (k * size)) = xs.take (k * size) := by rw [← htk, List.take_take, Nat.min_eq_left hkn]
      rw [ht2]
      simp only
      rw [List.take_append_of_le_length (by rw [List.length_append, List.length_take, hl, hzl]; omega)]
      exact List.take_of_length_le (by rw [List.length_append, List.length_take, hl, hzl]; omega)
/-- clear of the tail of a slice of the call's own. -/
theorem wpList_clear_sep {P : Program} {ops : Array Oper} {rest : List Oper} {o : Oper} {a : Act} {Q : Exit → Act → World → Prop} {g c : Nat} (hS : Sep w (vec e size (.slice (some ⟨g, 0, none⟩) n c) n xs :: rs)) (hw : Region.wanted o (yielded ops a.tmps) = true) (x : Operand) (t : TypeId)
    (ho : o.op = .call { callee := .builtin .clear, args := #[x], argTypes := #[t] }) (z : Value) (ht : P.underlying t = some (.slice e)) (hz : ∀ w : World, (zeroValue e).run P w = .ok z w)
    (hzs : z.cells.size = size) (hz1 : ∀ u ∈ z.cells.toList, u.oneCell' = true) (k : Nat) (hk : k < n) (c' : Nat) (hx : a.eval x = .slice (some ⟨g, k * size, none⟩) (n - k) c')
    (h : ∀ w' ys, Sep w' (vec e size (.slice (some ⟨g, 0, none⟩) n c) n (xs.take (k * size) ++ ys) :: rs) → wpList P ops Q rest (a.put o.dst (.tuple #[])) w') : wpList P ops Q (o :: rest) a w := by
  obtain ⟨w', ys, hr, hS'⟩ := run_clear_sep (P := P) hS t o.type z ht hz hzs hz1 k hk c'
  unfold wpList
  rw [if_pos hw]
  refine .inl ?_
  unfold Oper.wp execOp
  simp only [ho, resolve, invoke, builtin, Sem.run_bind, Sem.run_pure, Result.andThen_ok, List.map_toArray, List.map_cons, List.map_nil, hx, hr]
  exact h w' ys hS'
end
theorem zero48 (w : World) : (zeroValue 48).run Try.prog w = .ok (.agg #[.int .i64 0, .int .i64 0, .int .i64 0, .int .i64 0, .int .i64 0]) w := by kernel_rfl
theorem size48 : (Value.agg #[.int .i64 0, .int .i64 0, .int .i64 0, .int .i64 0, .int .i64 0]).cells.size = 5 := rfl
theorem one48 : ∀ u ∈ (Value.agg #[.int .i64 0, .int .i64 0, .int .i64 0, .int .i64 0, .int .i64 0]).cells.toList, u.oneCell' = true := by
  intro u hu
  simp [Value.cells] at hu
  subst hu
  rfl
/-- What is asked of a function value while a row is written. -/
def PredC (g : Nat) (lb : Array Value) (p : Rq → Bool) (ctx : List Res) : Prop :=
  ∀ (W : World) (r : Rq), Sep W ctx → Calls Try.prog g (#[r.val] ++ lb) W fun e w' => e = .returned (.bool (p r)) ∧ Below W.heap.size W w'
theorem qcells_put (l : List Rq) (i : Nat) (q : Rq) (h : i < l.length) : (((((qcells l).set (i * 5) (.int .i64 q.id)).set (i * 5 + 1) (.int .i64 q.txn)).set (i * 5 + 2) (.int .i64 q.mode)).set (i * 5 + 3) (.int .i64 q.want)).set (i * 5 + 4) (.int .i64 q.since) = qcells (l.set i q) := by
  induction l generalizing i with
  | nil => simp at h
  | cons r l ih =>
    cases i with
    | zero => rfl
    | succ i =>
      have ih' := ih i (by simpa using h)
      simp only [List.set_cons_succ]
      simp only [qcells, List.flatMap_cons] at ih' ⊢
      rw [← ih']
      rw [List.set_append_right _ _ (by simp [Rq.cells]; omega), List.set_append_right _ _ (by simp [Rq.cells]; omega), List.set_append_right _ _ (by simp [Rq.cells]; omega), List.set_append_right _ _ (by simp [Rq.cells]; omega), List.set_append_right _ _ (by simp [Rq.cells]; omega)]
      simp only [Rq.cells, List.length_cons, List.length_nil]
      rw [show (i + 1) * 5 - (0 + 1 + 1 + 1 + 1 + 1) = i * 5 by omega, show (i + 1) * 5 + 1 - (0 + 1 + 1 + 1 + 1 + 1) = i * 5 + 1 by omega, show (i + 1) * 5 + 2 - (0 + 1 + 1 + 1 + 1 + 1) = i * 5 + 2 by omega, show (i + 1) * 5 + 3 - (0 + 1 + 1 + 1 + 1 + 1) = i * 5 + 3 by omega, show (i + 1) * 5 + 4 - (0 + 1 + 1 + 1 + 1 + 1) = i * 5 + 4 by omega]
theorem Sep.vq_put {w : World} {g m c i : Nat} {l : List Rq} {rs : List Res} (h : Sep w (vq (.slice (some ⟨g, 0, none⟩) m c) l :: rs)) (hl : l.length = m) (hi : i < m) (q : Rq) :
    Sep (((((w.setCell ⟨g, i * 5, none⟩ (.int .i64 q.id)).setCell ⟨g, i * 5 + 1, none⟩ (.int .i64 q.txn)).setCell ⟨g, i * 5 + 2, none⟩ (.int .i64 q.mode)).setCell ⟨g, i * 5 + 3, none⟩ (.int .i64 q.want)).setCell ⟨g, i * 5 + 4, none⟩ (.int .i64 q.since)) (vq (.slice (some ⟨g, 0, none⟩) m c) (l.set i q) :: rs) := by
  subst hl
  have h1 : Sep w (vec 48 5 (.slice (some ⟨g, 0, none⟩) l.length c) l.length (qcells l) :: rs) := h
  have h2 := ((((h1.vec_set (k := i * 5) (by rw [qcells_len]; omega) (.int .i64 q.id)).vec_set (k := i * 5 + 1) (by simp only [List.length_set]; rw [qcells_len]; omega) (.int .i64 q.txn)).vec_set (k := i * 5 + 2) (by simp only [List.length_set]; rw [qcells_len]; omega) (.int .i64 q.mode)).vec_set (k := i * 5 + 3) (by simp only [List.length_set]; rw [qcells_len]; omega) (.int .i64 q.want)).vec_set (k := i * 5 + 4) (by simp only [List.length_set]; rw [qcells_len]; omega) (.int .i64 q.since)
  rw [qcells_put l i q hi] at h2
  unfold vq
  rw [List.length_set]
  exact h2
def keepQ (p : Rq → Bool) (l : List Rq) : List Rq := l.filter fun q => !p q
theorem keepQ_snoc (p : Rq → Bool) (l : List Rq) (k : Nat) (h : k < l.length) : keepQ p (l.take (k + 1)) = keepQ p (l.take k) ++ (if p (l.getD k default) then [] else [l.getD k default]) := by
  rw [take_snocQ l k h]
  unfold keepQ
  rw [List.filter_append]
  generalize l.getD k default = q
  cases hp : p q <;> simp [hp]
theorem idx_take (p : Rq → Bool) : ∀ (l : List Rq) (k : Nat) (j : Nat), idxF p l k = ((k + j : Nat) : Int) → j < l.length → p (l.getD j default) = true ∧ keepQ p (l.take j) = l.take j
  | [], k, j, _, h => by simp at h
  | x :: l, k, j, h, hj => by
    unfold idxF at h
    cases hx : p x with
    | true =>
      rw [hx] at h
      simp only [if_true] at h
      obtain rfl : j = 0 := by omega
      exact ⟨by simpa [List.getD] using hx, by simp [keepQ]⟩
    | false =>
      rw [hx] at h
      simp only [Bool.false_eq_true, if_false] at h
      cases j with
      | zero =>
        exfalso
        rcases idxF_bd p l (k + 1) with h' | ⟨j', h1, _, _⟩ <;> omega
      | succ j =>
        have := idx_take p l (k + 1) j (by rw [h]; congr 1; omega) (by simpa using hj)
        refine ⟨by simpa [List.getD] using this.1, ?_⟩
        have h2 := this.2
        unfold keepQ at h2 ⊢
        simp only [List.take_succ_cons]
        rw [List.filter_cons_of_pos (by simp [hx]), h2]
theorem idx_none (p : Rq → Bool) : ∀ (l : List Rq) (k : Nat), idxF p l k = -1 → keepQ p l = l
  | [], _, _ => rfl
  | x :: l, k, h => by
    unfold idxF at h
    cases hx : p x with
    | true => rw [hx] at h; simp only [if_true] at h; omega
    | false =>
      rw [hx] at h
      simp only [Bool.false_eq_true, if_false] at h
      have := idx_none p l (k + 1) h
      unfold keepQ at this ⊢
      rw [List.filter_cons_of_pos (by simp [hx]), this]
theorem take_set_snoc (l : List Rq) (i : Nat) (q : Rq) (h : i < l.length) : (l.set i q).take (i + 1) = l.take i ++ [q] := by
  rw [List.take_succ_eq_append_getElem (by rw [List.length_set]; exact h), List.take_set_of_le (Nat.le_refl _)]
  simp
set_option maxHeartbeats 2000000 in
set_option maxRecDepth 100000 in
theorem deleteFunc_any (a : Option Addr) (m c : Nat) (l : List Rq) (g : Nat) (lb : Array Value) (p : Rq → Bool) (w : World) (ctx : List Res) (hS : Sep w (vq (.slice a m c) l :: ctx)) (hl : l.length = m) (hm : m ≤ 1000) (hp : PredC g lb p ctx)
    (eg : ∀ args w, (callFunc g args).run Try.prog w = .ok (.enter g args) w) :
    Calls Try.prog 77 #[.slice a m c, .func (.func g) #[] lb] w fun e w' => e = .returned (.slice a (keepQ p l).length c) ∧ Sep w' (vq (.slice a (keepQ p l).length c) (keepQ p l) :: ctx) := by
  have HI := Lib.hid (index_any (.slice a m c) l g lb p w (by have := hS.vq_rq; exact this) (by omega) (fun W r hb => hp W r (hS.tail.below hb)) eg)
  have hbd := idxF_bd p l 0
  have hnone := Lib.hid (idx_none p l 0)
  have htake := Lib.hid (idx_take p l 0)
  replace hS := Lib.hid hS
  replace hp := Lib.hid hp
  generalize idxF p l 0 = x at *
  rcases hbd with rfl | ⟨i0, hx, hi0, hpi⟩
  · have E := Lib.hid (hnone.out rfl)
    go_enter Try.func77, Try.ntmps77
    go_wp2_with fail
    refine HI.out.mono ?_
    rintro e w1 ⟨rfl, b1⟩
    replace hS := Lib.hid (hS.out.below b1)
    clear b1
    go_wp2_with fail
    go_ret
    exact ⟨by rw [E.out, hl]; rfl, by rw [E.out, hl]; exact hS.out⟩
  · rw [Nat.zero_add] at hx
    subst hx
    obtain ⟨hpt, hk0⟩ := htake.out i0 (by simp) hi0
    obtain ⟨g0, rfl, _⟩ := hS.out.vq_at hl (by omega : i0 < m)
    have hm0 : ((i0 : Int) == -1) = false := by rw [beq_eq_false_iff_ne]; omega
    have hst := Lib.hid (show keepQ p (l.take (i0 + 1)) = l.take i0 by rw [keepQ_snoc p l i0 hi0, hpt, hk0]; simp)
    replace hk0 := Lib.hid hk0
    replace hl := Lib.hid hl
    have hi0' : i0 < m := by have := hl.out; omega
    clear hpt hpi hnone htake
    go_enter Try.func77, Try.ntmps77
    go_wp2_with fail
    refine HI.out.mono ?_
    rintro e w1 ⟨rfl, b1⟩
    replace hS := Lib.hid (hS.out.below b1)
    clear b1 HI
    go_wp2_with fail
    go_loopg [5, 6] (m - (i0 + 1)) (fun g s5 s6 wr => ∃ (i j : Nat) (cur : List Rq), i < j ∧ j ≤ m ∧ g = m - j ∧ s5 = .int .i64 i ∧ s6 = .int .i64 j ∧ Hid (cur.length = m) ∧ Hid (cur.take i = keepQ p (l.take j)) ∧ Hid (i = (keepQ p (l.take j)).length) ∧ Hid (cur.drop j = l.drop j) ∧ Hid (Sep wr (vq (.slice (some ⟨g0, 0, none⟩) m c) cur :: ctx)))
    case atStart => exact ⟨i0, i0 + 1, l, by omega, by omega, rfl, rfl, by go_num, hl, Lib.hid (by rw [hst.out]), Lib.hid (by rw [hst.out, List.length_take]; omega), Lib.hid rfl, hS⟩
    case round =>
      clear hS hst hk0
      obtain ⟨i, j, cur, hij, hjm, hg, rfl, rfl, hcl, hct, hci, hcd, hS⟩ := hrel
      by_cases hlt : j < m
      · have hqq : cur.getD j default = l.getD j default := by
          have h1 := congrArg (fun x : List Rq => x.getD 0 default) hcd.out
          simpa [List.getD] using h1
        replace hqq := Lib.hid hqq
        obtain ⟨g', hg', hgl, hmc, z0, z1, z2, z3, z4, hfz⟩ := hS.out.vq_at hcl.out hlt
        injection hg' with hg'
        injection hg' with hg'
        subst hg'
        rw [hqq.out] at z0 z1 z2 z3 z4
        have hsn := Lib.hid (keepQ_snoc p l j (by have := hl.out; omega))
        have hcd' := Lib.hid (show cur.drop (j + 1) = l.drop (j + 1) by have h := congrArg (List.drop 1) hcd.out; simpa [List.drop_drop] using h)
        generalize l.getD j default = q at *
        have hS2 := Lib.hid (hS.out.alloc q.cells.toArray 48)
        have HP := Lib.hid (hp.out _ q hS2.out.tail.tail)
        have hput := Lib.hid (fun W (h : Sep W (vq (.slice (some ⟨g0, 0, none⟩) m c) cur :: blk wr.heap.size 48 q.cells.toArray :: ctx)) => h.vq_put hcl.out (show i < m by omega) q)
        obtain ⟨id, txn, mode, want, since⟩ := q
        simp only [Rq.val] at HP z0 z1 z2 z3 z4
        simp only [Rq.cells] at hS2 HP hput
        have i1 : (0 : Int) ≤ (j : Int) := by omega
        have i2 : (j : Int) < (m : Int) := by omega
        have i3 : (0 : Int) ≤ (i : Int) := by omega
        have i4 : (i : Int) < (m : Int) := by omega
        clear hfz
        go_wp2_with fail
        refine HP.out.mono ?_
        rintro e w2 ⟨rfl, b2⟩
        have hS3 := Lib.hid (hS2.out.below b2)
        obtain ⟨_, r0, r1, r2, r3, r4, _⟩ := hS3.out.b5
        obtain ⟨g', hg', hgl2, _, y0, y1, y2, y3, y4, hfz⟩ := hS3.out.to1.vq_at hcl.out (show i < m by omega)
        injection hg' with hg'
        injection hg' with hg'
        subst hg'
        have f0 := hfz (i * 5)
        have f1 := hfz (i * 5 + 1)
        have f2 := hfz (i * 5 + 2)
        have f3 := hfz (i * 5 + 3)
        have f4 := hfz (i * 5 + 4)
        clear b2 HP hS2 z0 z1 z2 z3 z4 hS hfz
        cases hpq : p ⟨id, txn, mode, want, since⟩ with
        | true =>
          rw [hpq] at hsn
          simp only [if_true, List.append_nil] at hsn
          clear hpq
          go_wp2_with fail
          go_roundg (m - (j + 1))
          case measure => omega
          case rel => exact ⟨i, j + 1, cur, by omega, by omega, rfl, rfl, by go_num, hcl, Lib.hid (by rw [hsn.out]; exact hct.out), Lib.hid (by rw [hsn.out]; exact hci.out), hcd', Lib.hid hS3.out.tail⟩
        | false =>
          rw [hpq] at hsn
          simp only [Bool.false_eq_true, if_false] at hsn
          have hS4 := hput.out _ hS3.out.to1
          try simp only at hS4
          replace hS4 := Lib.hid hS4
          clear hpq hput
          go_wp2_with fail
          go_roundg (m - (j + 1))
          case measure => omega
          case rel => exact ⟨i + 1, j + 1, cur.set i ⟨id, txn, mode, want, since⟩, by omega, by omega, rfl, by go_num, by go_num, Lib.hid (by rw [List.length_set]; exact hcl.out), Lib.hid (by rw [hsn.out, ← hct.out]; exact take_set_snoc cur i _ (by rw [hcl.out]; omega)), Lib.hid (by rw [hsn.out, List.length_append, ← hci.out]; rfl), Lib.hid (by rw [List.drop_set_of_lt (by omega)]; exact hcd'.out), Lib.hid hS4.out.drop1⟩
      · have hjm' : j = m := by omega
        have hlm : l.take j = l := List.take_of_length_le (by have := hl.out; omega)
        rw [hlm] at hct hci
        have hi3 : i < m := by omega
        obtain ⟨g', hg', hgl, hmc, _⟩ := hS.out.vq_at hcl.out hi3
        have hcv := Lib.hid (show Sep wr (vec 48 5 (.slice (some ⟨g0, 0, none⟩) m c) m (qcells cur) :: ctx) from by have h := hS.out; unfold vq at h; rw [hcl.out] at h; exact h)
        have i3 : (0 : Int) ≤ (i : Int) := by omega
        have i4 : (i : Int) < (m : Int) := by omega
        have i5 : (i : Int) ≤ (c : Int) := by omega
        clear hg' hgl hlm
        go_wp2_with (refine wpList_clear_sep hcv.out (by kernel_rfl) (.tmp 38) 24 (by rfl) _ Try.underlying24 zero48 size48 one48 i hi3 (c - i) (by rfl) ?_)
        intro w3 ys hS3
        have hS4 := hS3.vec_shrink (k := i) (by omega)
        have hq : ((qcells cur).take (i * 5) ++ ys).take (i * 5) = qcells (keepQ p l) := by
          rw [List.take_append_of_le_length (by rw [List.length_take, qcells_len, hcl.out]; omega), List.take_take, Nat.min_self, ← qcells_take, hct.out]
        rw [hq] at hS4
        replace hS4 := Lib.hid hS4
        clear hS3 hq hcv hS
        go_wp2_with fail
        go_ret
        exact ⟨by rw [← hci.out]; rfl, by unfold vq; rw [← hci.out]; exact hS4.out⟩
end Go.Proofs.Ytmacpjnkmkaloaa
