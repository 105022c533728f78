/-
  Contracts and plain laws that the walk leans on, part 2. No condition.
-/
import Derived.Test.YtcnkmhfcgkbhbaaZHd1
import Derived.Deep.WholeRow
import Derived.Deep.RegionWith
import Derived.Deep.RegionHeld3
import Derived.Deep.LoopGhost
import Derived.Deep.DeepCutAuto
import Derived.Shelf.SlicesE.IndexFunc
import Derived.BigRegion
namespace Go.Proofs.Ytcnkmhfcgkbhbaa
open Go.RowKit

structure Rq where
  id : Int
  txn : Int
  mode : Int
  want : Int
  since : Int
  deriving DecidableEq, Inhabited
def Rq.val (r : Rq) : Value := .agg #[.int .i64 r.id, .int .i64 r.txn, .int .i64 r.mode, .int .i64 r.want, .int .i64 r.since]
def Rq.cells (r : Rq) : List Value := [.int .i64 r.id, .int .i64 r.txn, .int .i64 r.mode, .int .i64 r.want, .int .i64 r.since]
def qcells (l : List Rq) : List Value := l.flatMap Rq.cells
/-- The value v is a slice of requests that reads as l. -/
def RQ (w : World) (v : Value) (l : List Rq) : Prop :=
  ∃ a c, v = .slice a l.length c ∧ l.length ≤ c ∧ (a = none → c = 0) ∧ (0 < l.length → ∃ b off, a = some ⟨b, off, none⟩ ∧ b < w.heap.size ∧ ∀ j, j < l.length →
    w.cell? ⟨b, off + j * 5, none⟩ = some (.int .i64 (l.getD j default).id) ∧ w.cell? ⟨b, off + j * 5 + 1, none⟩ = some (.int .i64 (l.getD j default).txn) ∧ w.cell? ⟨b, off + j * 5 + 2, none⟩ = some (.int .i64 (l.getD j default).mode) ∧
    w.cell? ⟨b, off + j * 5 + 3, none⟩ = some (.int .i64 (l.getD j default).want) ∧ w.cell? ⟨b, off + j * 5 + 4, none⟩ = some (.int .i64 (l.getD j default).since))
theorem RQ.below {w w' : World} {v : Value} {l : List Rq} (h : RQ w v l) (hb : Below w.heap.size w w') : RQ w' v l := by
  obtain ⟨a, c, hv, hc, hna, hr⟩ := h
  refine ⟨a, c, hv, hc, hna, fun h0 => ?_⟩
  obtain ⟨b, off, ha, hlt, hz⟩ := hr h0
  have k : ∀ o, w'.cell? ⟨b, o, none⟩ = w.cell? ⟨b, o, none⟩ := fun o => hb.cell (p := ⟨b, o, none⟩) hlt
  exact ⟨b, off, ha, Nat.lt_of_lt_of_le hlt hb.size, fun j hj => by rw [k, k, k, k, k]; exact hz j hj⟩
theorem belT {w w1 w2 : World} (h : Below w.heap.size w w1) (h' : Below w1.heap.size w1 w2) : Below w.heap.size w w2 := h.trans (h'.mono h.size)

theorem belA {w w1 : World} (o : Obj) (h : Below (w.alloc o).heap.size (w.alloc o) w1) : Below w.heap.size w w1 := belT ((Below.refl _ _).alloc (Nat.le_refl _) o) h
/-- A boxed request behind calls that only make memory. -/
theorem cellsA {w w1 : World} {a0 a1 a2 a3 a4 : Value} {t : TypeId} (h : Below (w.alloc (.cells #[a0, a1, a2, a3, a4] t)).heap.size (w.alloc (.cells #[a0, a1, a2, a3, a4] t)) w1) (b0 b1 b2 b3 b4 : Value) (e : #[a0, a1, a2, a3, a4] = #[b0, b1, b2, b3, b4]) :
    w1.cell? ⟨w.heap.size, 0, none⟩ = some b0 ∧ w1.cell? ⟨w.heap.size, 1, none⟩ = some b1 ∧ w1.cell? ⟨w.heap.size, 2, none⟩ = some b2 ∧ w1.cell? ⟨w.heap.size, 3, none⟩ = some b3 ∧ w1.cell? ⟨w.heap.size, 4, none⟩ = some b4 := by
  rw [e] at h
  have hb := (Blk.new w t #[b0, b1, b2, b3, b4]).below' h
  exact ⟨hb.cell 0, hb.cell 1, hb.cell 2, hb.cell 3, hb.cell 4⟩
theorem holds_any (r : Rq) (w : World) : Calls Try.prog 62 #[r.val] w fun e w' => e = .returned (.bool (r.mode != 0)) ∧ Below w.heap.size w w' := by
  obtain ⟨id, txn, mode, want, since⟩ := r
  unfold Rq.val
  go_enter Try.func62, Try.ntmps62
  go_wp2
  go_ret
  exact ⟨rfl, (Below.refl _ _).alloc (Nat.le_refl _) _⟩
theorem waits_any (r : Rq) (w : World) : Calls Try.prog 48 #[r.val] w fun e w' => e = .returned (.bool (decide (0 < r.since))) ∧ Below w.heap.size w w' := by
  obtain ⟨id, txn, mode, want, since⟩ := r
  unfold Rq.val
  go_enter Try.func48, Try.ntmps48
  go_wp2
  go_ret
  exact ⟨rfl, (Below.refl _ _).alloc (Nat.le_refl _) _⟩
def upB (r : Rq) : Bool := r.mode != 0 && decide (0 < r.since)
theorem upgrades_any (r : Rq) (w : World) : Calls Try.prog 64 #[r.val] w fun e w' => e = .returned (.bool (upB r)) ∧ Below w.heap.size w w' := by
  have H1 := Lib.hid (fun w => holds_any r w)
  have H2 := Lib.hid (fun w => waits_any r w)
  obtain ⟨id, txn, mode, want, since⟩ := r
  unfold Rq.val at *
  simp only at H1 H2
  by_cases h : mode = 0
  · subst h
    go_enter Try.func64, Try.ntmps64
    go_wp2_with fail
    refine (H1.out _).mono ?_
    rintro e w1 ⟨rfl, b1⟩
    replace b1 := Lib.hid b1
    go_wp2_with fail
    go_ret
    exact ⟨rfl, belA _ b1.out⟩
  · have h0 : (mode != 0) = true := by simpa using h
    have E := Lib.hid (show upB ⟨id, txn, mode, want, since⟩ = decide (0 < since) by simp only [upB, h0, Bool.true_and])
    rw [h0] at H1
    clear h
    go_enter Try.func64, Try.ntmps64
    go_wp2_with fail
    refine (H1.out _).mono ?_
    rintro e w1 ⟨rfl, b1⟩
    have c := cellsA b1 _ _ _ _ _ rfl
    obtain ⟨c0, c1, c2, c3, c4⟩ := c
    replace b1 := Lib.hid b1
    go_wp2_with fail
    refine (H2.out _).mono ?_
    rintro e w2 ⟨rfl, b2⟩
    replace b1 := Lib.hid (belT (belA _ b1.out) b2)
    clear b2 c0 c1 c2 c3 c4
    go_wp2_with fail
    go_ret
    exact ⟨by rw [E.out]; rfl, b1.out⟩
/-- What is asked of a function value that is called with requests. -/
def PredQ (g : Nat) (lb : Array Value) (p : Rq → Bool) (w : World) : Prop :=
  ∀ (W : World) (r : Rq), Below w.heap.size w W → Calls Try.prog g (#[r.val] ++ lb) W fun e w' => e = .returned (.bool (p r)) ∧ Below W.heap.size W w'
/-- Where the first one is that meets p; -1. -/
def idxF {α : Type} (p : α → Bool) : List α → Nat → Int
  | [], _ => -1
  | x :: l, k => if p x then (k : Int) else idxF p l (k + 1)
theorem drop_at (l : List Rq) (k : Nat) (h : k < l.length) : l.drop k = l.getD k default :: l.drop (k + 1) := by
  rw [List.drop_eq_getElem_cons h]
  simp [List.getD, h]
set_option maxHeartbeats 1000000 in
theorem index_any (v : Value) (l : List Rq) (g : Nat) (lb : Array Value) (p : Rq → Bool) (w : World) (hv : RQ w v l) (hl : l.length ≤ 1000) (hp : PredQ g lb p w)
    (eg : ∀ args w, (callFunc g args).run Try.prog w = .ok (.enter g args) w) :
    Calls Try.prog 87 #[v, .func (.func g) #[] lb] w fun e w' => e = .returned (.int .i64 (idxF p l 0)) ∧ Below w.heap.size w w' := by
  obtain ⟨a, c, rfl, hc, _, hr⟩ := hv
  have HR := Lib.hid hr
  have HP := Lib.hid hp
  clear hr hp
  generalize hn : l.length = n at *
  replace hn := Lib.hid hn
  go_enter Try.func87, Try.ntmps87
  go_wp2
  go_loopw [8] (fun i wr => ∃ k : Nat, k ≤ n ∧ i = .int .i64 k ∧ Hid (idxF p l 0 = idxF p (l.drop k) k) ∧ Hid (Below w.heap.size w wr)) (fun i _ => n - (intOf i).toNat)
  case atStart => exact ⟨0, Nat.zero_le _, rfl, rfl, Below.refl _ _⟩
  case round =>
    obtain ⟨k, hk, rfl, he, hb⟩ := hrel
    by_cases hlt : k < n
    · obtain ⟨b, off, rfl, hbl, hz⟩ := HR.out (by omega)
      obtain ⟨z0, z1, z2, z3, z4⟩ := hz k hlt
      have kk : ∀ o, wr.cell? ⟨b, o, none⟩ = w.cell? ⟨b, o, none⟩ := fun o => hb.out.cell (p := ⟨b, o, none⟩) hbl
      rw [← kk] at z0 z1 z2 z3 z4
      have E := Lib.hid (drop_at l k (by rw [hn.out]; exact hlt))
      generalize l.getD k default = r at *
      have hq := Lib.hid (HP.out wr r hb.out)
      clear kk hz HR
      obtain ⟨id, txn, mode, want, since⟩ := r
      simp only [Rq.val] at hq z0 z1 z2 z3 z4
      go_wp2_with fail
      refine hq.out.mono ?_
      rintro e w1 ⟨rfl, b1⟩
      replace hb := Lib.hid (hb.out.trans (b1.mono hb.out.size))
      clear z0 z1 z2 z3 z4 b1 hq
      cases hpr : p ⟨id, txn, mode, want, since⟩ with
      | true =>
        have E2 := Lib.hid (show idxF p l 0 = (k : Int) by rw [he.out, E.out]; simp only [idxF, hpr, if_true])
        go_wp2_with fail
        go_ret
        exact ⟨by rw [E2.out]; rfl, hb.out⟩
      | false =>
        have E2 := Lib.hid (show idxF p l 0 = idxF p (l.drop (k + 1)) (k + 1) by rw [he.out, E.out]; simp only [idxF, hpr]; rfl)
        go_wp2_with fail
        go_roundw
        case rel => exact ⟨k + 1, by omega, by go_num, E2, hb⟩
        case measure => simp [intOf]; omega
    · have hk2 : k = n := by omega
      have E := Lib.hid (show idxF p l 0 = -1 by rw [he.out, List.drop_eq_nil_of_le (by rw [hn.out]; omega)]; rfl)
      clear he
      go_wp2_with fail
      go_ret
      exact ⟨by rw [E.out]; rfl, hb.out⟩
theorem idxF_any {α : Type} (p : α → Bool) : ∀ (l : List α) (k : Nat), decide (0 ≤ idxF p l k) = l.any p
  | [], k => by simp [idxF]
  | x :: l, k => by
    unfold idxF
    cases h : p x with
    | true => simp [h]
    | false => simp [h, idxF_any p l (k + 1)]
end Go.Proofs.Ytcnkmhfcgkbhbaa
namespace Go.Proofs.Ytcnkmhfcgkbhbaa
open Go.RowKit
theorem qcells_len (l : List Rq) : (qcells l).length = l.length * 5 := by
  induction l with
  | nil => rfl
  | cons r l ih => simp only [qcells, List.flatMap_cons, List.length_append, List.length_cons] at *; rw [ih, Rq.cells]; simp; omega
theorem qcells_at (l : List Rq) (j : Nat) (h : j < l.length) : ∀ f, f < 5 → (qcells l)[j * 5 + f]? = (Rq.cells (l.getD j default))[f]? := by
  induction l generalizing j with
  | nil => simp at h
  | cons r l ih =>
    intro f hf
    cases j with
    | zero => simp only [qcells, List.flatMap_cons]; rw [Nat.zero_mul, Nat.zero_add, List.getElem?_append_left (by simp [Rq.cells]; omega)]; rfl
    | succ j =>
      simp only [qcells, List.flatMap_cons]
      rw [List.getElem?_append_right (by simp [Rq.cells]; omega)]
      have := ih j (by simpa using h) f hf
      simp only [qcells] at this
      rw [show (j + 1) * 5 + f - r.cells.length = j * 5 + f by simp [Rq.cells]; omega, this]
      simp [List.getD]
theorem qcells_one (l : List Rq) : ∀ u ∈ qcells l, u.oneCell' = true := by
  intro u hu
  simp only [qcells, List.mem_flatMap] at hu
  obtain ⟨r, _, hu⟩ := hu
  simp only [Rq.cells, List.mem_cons, List.not_mem_nil, or_false] at hu
  rcases hu with rfl | rfl | rfl | rfl | rfl <;> rfl
theorem RQ.src {w : World} {v : Value} {l : List Rq} (h : RQ w v l) : SrcA w 5 v l.length (qcells l) := by
  obtain ⟨a, c, rfl, hc, hna, hr⟩ := h
  cases a with
  | none =>
    have h0 : l.length = 0 := by
      rcases Nat.eq_zero_or_pos l.length with h | h
      · exact h
      · obtain ⟨b, off, h, _⟩ := hr h; cases h
    have hl := List.eq_nil_of_length_eq_zero h0
    subst hl
    exact .inl ⟨by rw [hna rfl]; rfl, rfl, rfl⟩
  | some ad =>
    refine .inr ⟨ad, c, rfl, qcells_len l, fun j u hu => ?_⟩
    have hj : j < l.length * 5 := by
      rcases Nat.lt_or_ge j (l.length * 5) with h | h
      · exact h
      · rw [List.getElem?_eq_none (by rw [qcells_len]; exact h)] at hu; cases hu
    obtain ⟨b, off, hb, _, hz⟩ := hr (by omega)
    injection hb with hb
    subst hb
    obtain ⟨z0, z1, z2, z3, z4⟩ := hz (j / 5) (by omega)
    rw [Addr.add_lit]
    have hq := qcells_at l (j / 5) (by omega) (j % 5) (by omega)
    rw [show j / 5 * 5 + j % 5 = j by omega, hu] at hq
    have e : off + j = off + j / 5 * 5 + j % 5 := by omega
    rw [e]
    have h5 : j % 5 = 0 ∨ j % 5 = 1 ∨ j % 5 = 2 ∨ j % 5 = 3 ∨ j % 5 = 4 := by omega
    rcases h5 with h | h | h | h | h <;> rw [h] at hq ⊢ <;> simp only [Rq.cells, List.getElem?_cons_zero, List.getElem?_cons_succ] at hq <;> rw [hq] <;> assumption
theorem RQ.of_own {w : World} {base : Nat} {v : Value} {l : List Rq} (h : w.ownsRow base 39 5 v l.length (qcells l)) : RQ w v l := by
  rcases h.2 with ⟨hv, h0⟩ | ⟨g, cap, cur, rfl, _, hg, hnc, _⟩
  · subst hv
    have hl := List.eq_nil_of_length_eq_zero h0
    subst hl
    exact ⟨none, 0, rfl, Nat.le_refl _, fun _ => rfl, fun h => absurd h (by simp)⟩
  · refine ⟨some ⟨g, 0, none⟩, cap, rfl, hnc, (fun h => by cases h), fun _ => ⟨g, 0, rfl, (Array.getElem?_eq_some_iff.1 hg).1, fun j hj => ?_⟩⟩
    have key : ∀ f, f < 5 → ∀ u, (Rq.cells (l.getD j default))[f]? = some u → w.cell? ⟨g, 0 + j * 5 + f, none⟩ = some u := by
      intro f hf u hu
      have := h.cells (g := g) rfl (j * 5 + f) u (by rw [qcells_at l j hj f hf]; exact hu)
      rw [Addr.add_lit] at this
      rw [show 0 + j * 5 + f = 0 + (j * 5 + f) by omega]
      exact this
    exact ⟨key 0 (by omega) _ rfl, key 1 (by omega) _ rfl, key 2 (by omega) _ rfl, key 3 (by omega) _ rfl, key 4 (by omega) _ rfl⟩
theorem info_req : (Try.prog.info? 39).map (fun i => (i.zero, i.size, i.bytes)) = some (some (.agg #[.int .i64 0, .int .i64 0, .int .i64 0, .int .i64 0, .int .i64 0]), 5, 40) := by kernel_rfl

/-- A copy of requests, in memory of its own. -/
def vq (v : Value) (l : List Rq) : Res := vec 39 5 v l.length (qcells l)
theorem Sep.vq_rq {w : World} {v : Value} {l : List Rq} {rs : List Res} (h : Sep w (vq v l :: rs)) : RQ w v l := RQ.of_own h.gvec
theorem Sep.vq_at {w : World} {a : Option Addr} {m c i : Nat} {l : List Rq} {rs : List Res} (h : Sep w (vq (.slice a m c) l :: rs)) (hl : l.length = m) (hi : i < m) :
    ∃ g, a = some ⟨g, 0, none⟩ ∧ g < w.heap.size ∧ m ≤ c ∧ w.cell? ⟨g, i * 5, none⟩ = some (.int .i64 (l.getD i default).id) ∧ w.cell? ⟨g, i * 5 + 1, none⟩ = some (.int .i64 (l.getD i default).txn) ∧ w.cell? ⟨g, i * 5 + 2, none⟩ = some (.int .i64 (l.getD i default).mode) ∧
      w.cell? ⟨g, i * 5 + 3, none⟩ = some (.int .i64 (l.getD i default).want) ∧ w.cell? ⟨g, i * 5 + 4, none⟩ = some (.int .i64 (l.getD i default).since) ∧ ∀ o, w.frozen? ⟨g, o, none⟩ = false := by
  subst hl
  unfold vq at h
  rcases h.gvec.2 with ⟨_, h0⟩ | ⟨g, cap, cur, hv, _⟩
  · omega
  · injection hv with e1 _ e3
    subst e1 e3
    have key : ∀ f, f < 5 → ∀ u, (Rq.cells (l.getD i default))[f]? = some u → w.cell? ⟨g, i * 5 + f, none⟩ = some u := fun f hf u hu => (h.vec_cell (by rw [qcells_at l i hi f hf]; exact hu)).1
    obtain ⟨cur', hb, hnc, _⟩ := h.vec_blk
    exact ⟨g, rfl, hb.gblk.lt, hnc, key 0 (by omega) _ rfl, key 1 (by omega) _ rfl, key 2 (by omega) _ rfl, key 3 (by omega) _ rfl, key 4 (by omega) _ rfl, fun o => hb.gblk.frozen o⟩
def hval (t r : Int) (q : Value) (n : Int) : Value := .agg #[.int .i64 t, .int .i64 r, q, .int .i64 n]
end Go.Proofs.Ytcnkmhfcgkbhbaa
namespace Go.Proofs.Ytcnkmhfcgkbhbaa
open Go.RowKit
theorem wpList_store_new {P : Program} {ops : Array Oper} {rest : List Oper} {o : Oper} {a : Act} {w0 : World} {Q : Exit → Act → World → Prop} (hgd : o.guard = none) (ty : TypeId) (x y : Operand) (ho : o.op = .store ty x y)
    (c c' : Array Value) (hx : a.eval x = .pointer (some ⟨w0.heap.size, 0, none⟩)) (hy : a.eval y = .agg c')
    (hi : (P.info? ty).map (·.size) = some c'.size) (hs : c.size = c'.size) (h1 : c'.all (·.oneCell') = true)
    (h : wpList P ops Q rest (a.put o.dst undef) (w0.alloc (.cells c' ty))) : wpList P ops Q (o :: rest) a (w0.alloc (.cells c ty)) :=
  wpList_plain hgd fun K hK => by
    have hr := run_storeAt_new (P := P) w0 ty c c' hi hs h1
    unfold Oper.wp execOp
    simp only [ho, hx, hy, Sem.run_bind, Sem.run_pure, Result.andThen_ok, hr]
    exact hK _ _ h
def covArr : Array Value := #[.int .i64 1, .int .i64 0, .int .i64 0, .int .i64 0, .int .i64 0, .int .i64 0, .int .i64 0,
  .int .i64 1, .int .i64 1, .int .i64 0, .int .i64 0, .int .i64 0, .int .i64 0, .int .i64 0,
  .int .i64 1, .int .i64 1, .int .i64 1, .int .i64 0, .int .i64 0, .int .i64 0, .int .i64 0,
  .int .i64 1, .int .i64 1, .int .i64 0, .int .i64 1, .int .i64 0, .int .i64 0, .int .i64 0,
  .int .i64 1, .int .i64 1, .int .i64 1, .int .i64 1, .int .i64 1, .int .i64 0, .int .i64 0,
  .int .i64 1, .int .i64 1, .int .i64 0, .int .i64 1, .int .i64 0, .int .i64 1, .int .i64 0,
  .int .i64 1, .int .i64 1, .int .i64 1, .int .i64 1, .int .i64 1, .int .i64 1, .int .i64 1]
def comArr : Array Value := #[.int .i64 1, .int .i64 1, .int .i64 1, .int .i64 1, .int .i64 1, .int .i64 1, .int .i64 1,
  .int .i64 1, .int .i64 1, .int .i64 1, .int .i64 1, .int .i64 1, .int .i64 1, .int .i64 0,
  .int .i64 1, .int .i64 1, .int .i64 1, .int .i64 0, .int .i64 0, .int .i64 0, .int .i64 0,
  .int .i64 1, .int .i64 1, .int .i64 0, .int .i64 1, .int .i64 0, .int .i64 1, .int .i64 0,
  .int .i64 1, .int .i64 1, .int .i64 0, .int .i64 0, .int .i64 0, .int .i64 0, .int .i64 0,
  .int .i64 1, .int .i64 1, .int .i64 0, .int .i64 1, .int .i64 0, .int .i64 0, .int .i64 0,
  .int .i64 1, .int .i64 0, .int .i64 0, .int .i64 0, .int .i64 0, .int .i64 0, .int .i64 0]
theorem size43 : (Try.prog.info? 115).map (·.size) = some 49 := by kernel_rfl
theorem com_one : comArr.all (·.oneCell') = true := by simp [comArr, Value.oneCell']
theorem com_size : 49 = comArr.size := by simp [comArr]
set_option maxRecDepth 100000 in
theorem compat_t (w : World) : Calls Try.prog 89 #[] w fun e w' => e = .returned (.agg comArr) ∧ w' = w.alloc (.cells comArr 115) := by
  go_enter Try.func89, Try.ntmps89
  go_wp2_with (refine wpList_store_new rfl 115 _ _ rfl _ comArr rfl rfl (by rw [← com_size]; exact size43) (by rw [← com_size]; simp) com_one ?_)
  refine bodyPost_ret (results_cell_row rfl _ _ w.heap.size 115 comArr (0, 0) _ rfl (heap_alloc_new w _) Try.underlying115 rfl (by rw [← com_size]; exact size43)) rfl ⟨rfl, rfl⟩

def knownB (m : Int) : Bool := decide (0 ≤ m ∧ m ≤ 6)
theorem known_any (m : Int) (w : World) : Calls Try.prog 107 #[.int .i64 m] w fun e w' => e = .returned (.bool (knownB m)) ∧ w = w' := by
  unfold knownB
  by_cases h1 : 0 ≤ m
  · by_cases h2 : m ≤ 6
    · rw [show decide (0 ≤ m ∧ m ≤ 6) = true by simp [h1, h2]]
      go_enter Try.func107, Try.ntmps107
      go_wp2
      go_ret
      exact ⟨rfl, rfl⟩
    · rw [show decide (0 ≤ m ∧ m ≤ 6) = false by simp [h2]]
      go_enter Try.func107, Try.ntmps107
      go_wp2
      go_ret
      exact ⟨rfl, rfl⟩
  · rw [show decide (0 ≤ m ∧ m ≤ 6) = false by simp [h1]]
    go_enter Try.func107, Try.ntmps107
    go_wp2
    go_ret
    exact ⟨rfl, rfl⟩
theorem known_nat {m : Int} (h : knownB m = true) : ∃ k : Nat, m = k ∧ k < 7 := by
  simp [knownB] at h
  obtain ⟨k, rfl⟩ := Int.eq_ofNat_of_zero_le h.1
  exact ⟨k, rfl, by omega⟩
def cellB (arr : Array Value) (i : Nat) : Bool := match arr[i]? with | some (.int _ n) => n == 1 | _ => false
def tabB (arr : Array Value) (a b : Int) : Bool := knownB a && knownB b && cellB arr (a.toNat * 7 + b.toNat)

theorem is_any (cs : Array Value) (hcs : ∀ i, i < 49 → ∃ n, cs[i]? = some (.int .i64 n)) (a b : Int) (w : World) :
    Calls Try.prog 90 #[.agg cs, .int .i64 a, .int .i64 b] w fun e w' => e = .returned (.bool (tabB cs a b)) ∧ w' = w.alloc (.cells cs 115) := by
  have Ka := Lib.hid (fun W => known_any a W)
  have Kb := Lib.hid (fun W => known_any b W)
  cases ha : knownB a with
  | false =>
    rw [show tabB cs a b = false by simp [tabB, ha]]
    clear hcs
    go_enter Try.func90, Try.ntmps90
    go_wp2_with (go_at_call 107; refine (Ka.out _).mono ?_; rintro e w' ⟨rfl, rfl⟩)
    go_ret
    exact ⟨rfl, rfl⟩
  | true =>
    cases hb : knownB b with
    | false =>
      rw [show tabB cs a b = false by simp [tabB, hb]]
      clear hcs
      go_enter Try.func90, Try.ntmps90
      go_wp2_with fail
      refine (Ka.out _).mono ?_
      rintro e w' ⟨rfl, rfl⟩
      go_wp2_with fail
      refine (Kb.out _).mono ?_
      rintro e w' ⟨rfl, rfl⟩
      go_wp2_with fail
      go_ret
      exact ⟨rfl, rfl⟩
    | true =>
      obtain ⟨i, rfl, hi⟩ := known_nat ha
      obtain ⟨j, rfl, hj⟩ := known_nat hb
      obtain ⟨n, hn⟩ := hcs (i * 7 + j) (by omega)
      have e := Lib.hid (show tabB cs i j = (n == 1) by simp [tabB, ha, hb, cellB, hn])
      clear hcs
      by_cases h1 : n = 1
      · have h1' : (n == 1) = true := by simpa using h1
        clear h1
        go_enter Try.func90, Try.ntmps90
        go_wp2_with fail
        refine (Ka.out _).mono ?_
        rintro e w' ⟨rfl, rfl⟩
        go_wp2_with fail
        refine (Kb.out _).mono ?_
        rintro e w' ⟨rfl, rfl⟩
        go_wp2_with fail
        go_ret
        exact ⟨by rw [e.out, h1']; rfl, rfl⟩
      · have h1' : (n == 1) = false := by simpa using h1
        clear h1
        go_enter Try.func90, Try.ntmps90
        go_wp2_with fail
        refine (Ka.out _).mono ?_
        rintro e w' ⟨rfl, rfl⟩
        go_wp2_with fail
        refine (Kb.out _).mono ?_
        rintro e w' ⟨rfl, rfl⟩
        go_wp2_with fail
        go_ret
        exact ⟨by rw [e.out, h1']; rfl, rfl⟩
theorem comArr_ints : ∀ i, i < 49 → ∃ n, comArr[i]? = some (.int .i64 n) := by
  intro i hi
  have : ∀ i : Fin 49, (match comArr[i.val]? with | some (.int .i64 _) => true | _ => false) = true := by decide
  have h := this ⟨i, hi⟩
  dsimp only at h
  split at h
  · rename_i n hn; exact ⟨n, hn⟩
  · cases h
theorem below_alloc (w : World) (o : Obj) : Below w.heap.size w (w.alloc o) := (Below.refl _ _).alloc (Nat.le_refl _) _
theorem below_alloc2 (w : World) (o o' : Obj) : Below w.heap.size w ((w.alloc o).alloc o') := (below_alloc w o).alloc (by simp) _
def covB (a b : Int) : Bool := tabB covArr a b
def comB (a b : Int) : Bool := tabB comArr a b
theorem compat_any (a b : Int) (w : World) : Calls Try.prog 63 #[.int .i64 a, .int .i64 b] w fun e w' => e = .returned (.bool (comB a b)) ∧ Below w.heap.size w w' := by
  have HC := Lib.hid (compat_t w)
  have HI := Lib.hid (fun W => is_any comArr comArr_ints a b W)
  have hb := Lib.hid (below_alloc2 w (.cells comArr 115) (.cells comArr 115))
  go_enter Try.func63, Try.ntmps63
  go_wp2_with fail
  refine HC.out.mono ?_
  rintro e w' ⟨rfl, rfl⟩
  go_wp2_with fail
  refine (HI.out _).mono ?_
  rintro e w' ⟨rfl, rfl⟩
  go_wp2_with fail
  go_ret
  exact ⟨rfl, hb.out⟩
end Go.Proofs.Ytcnkmhfcgkbhbaa
namespace Go.Proofs.Ytcnkmhfcgkbhbaa
open Go.RowKit
theorem reg_skip {P : Program} {md : Region.Mode} {ops : Array Oper} {Q : Exit → Act → World → Prop} (i : Nat) {oi : Oper} {fuel : Nat} {listed : Array Bool} {a : Act} {w : World} (hi : ops[i]? = some oi)
    (hs : Region.noSelect ops = true) (hf : Region.free md ops listed i = true) (hr : (Region.ready md ops listed).contains i = true)
    (hQ : ∀ c t t' d w, Q (.panic c) ⟨t, d⟩ w → Q (.panic c) ⟨t', d⟩ w) (hw : Region.wanted oi (yielded ops a.tmps) = false)
    (h : wpAny P md ops Q fuel (listed.setIfInBounds i true) (a.put oi.dst undef) w) : wpAny P md ops Q (fuel + 1) listed a w :=
  wpAny_take hi hs hf hr (fun c a w h => by obtain ⟨t, d⟩ := a; cases hd : oi.dst with
    | none => rw [hd] at h; exact h
    | some k => rw [hd] at h; exact hQ c _ t d w h) (.inr ⟨hw, rfl⟩) h
theorem reg_take {P : Program} {md : Region.Mode} {ops : Array Oper} {Q : Exit → Act → World → Prop} (i : Nat) (v : Value) {oi : Oper} {fuel : Nat} {listed : Array Bool} {a : Act} {w : World} (hi : ops[i]? = some oi)
    (hs : Region.noSelect ops = true) (hf : Region.free md ops listed i = true) (hr : (Region.ready md ops listed).contains i = true)
    (hQ : ∀ c t t' d w, Q (.panic c) ⟨t, d⟩ w → Q (.panic c) ⟨t', d⟩ w) (hw : Region.wanted oi (yielded ops a.tmps) = true)
    (hy : ∀ w, (execOp a.eval oi).run P w = .ok (.value v) w)
    (h : wpAny P md ops Q fuel (listed.setIfInBounds i true) (a.put oi.dst v) w) : wpAny P md ops Q (fuel + 1) listed a w :=
  wpAny_take hi hs hf hr (fun c a w h => by obtain ⟨t, d⟩ := a; cases hd : oi.dst with
    | none => rw [hd] at h; exact h
    | some k => rw [hd] at h; exact hQ c _ t d w h) (.inl ⟨hw, hy⟩) h
end Go.Proofs.Ytcnkmhfcgkbhbaa
namespace Go.Proofs.Ytcnkmhfcgkbhbaa
open Go.RowKit

theorem place1 (id0 : Int) (B : Nat) (w : World) (hB : B < w.heap.size) (hc : w.cell? ⟨B, 0, none⟩ = some (.int .i64 id0)) : PredQ 88 #[.pointer (some ⟨B, 0, none⟩)] (fun r => r.id == id0) w := fun W r hb => by
  have c := (hb.cell (p := ⟨B, 0, none⟩) hB).trans hc
  have hs := hb.size
  have hl := Nat.lt_of_lt_of_le hB hs
  obtain ⟨id, txn, mode, want, since⟩ := r
  show Calls Try.prog 88 #[.agg #[.int .i64 id, .int .i64 txn, .int .i64 mode, .int .i64 want, .int .i64 since], .pointer (some ⟨B, 0, none⟩)] W _
  clear hb hc
  go_enter Try.func88, Try.ntmps88
  go_wp2
  go_ret
  exact ⟨rfl, (Below.refl _ _).alloc (Nat.le_refl _) _⟩
def fitsP (r o : Rq) : Bool := o.id != r.id && (o.mode != 0 && !comB o.mode r.want)
theorem eg_place : ∀ args w, (callFunc 88 args).run Try.prog w = .ok (.enter 88 args) w := enters_of Try.func88 (by kernel_rfl) rfl
theorem two_boxes (w : World) (b0 b1 : Array Value) (t0 t1 : TypeId) : Below w.heap.size w ((w.alloc (.cells b0 t0)).alloc (.cells b1 t1)) := ((Below.refl _ _).alloc (Nat.le_refl _) _).alloc (by simp) _
theorem snd_box (w : World) (b0 b1 : Array Value) (t0 t1 : TypeId) (i : Nat) : ((w.alloc (.cells b0 t0)).alloc (.cells b1 t1)).cell? ⟨w.heap.size + 1, i, none⟩ = b1[i]? := by
  have := (Blk.new (w.alloc (.cells b0 t0)) t1 b1).cell i
  rw [World.size_alloc] at this
  exact this
theorem place_any (t r n : Int) (v : Value) (l : List Rq) (id : Int) (w : World) (hv : RQ w v l) (hl : l.length ≤ 1000) :
    Calls Try.prog 61 #[hval t r v n, .int .i64 id] w fun e w' => e = .returned (.int .i64 (idxF (fun q => q.id == id) l 0)) ∧ Below w.heap.size w w' := by
  have H := Lib.hid (fun b0 => index_any v l 88 #[.pointer (some ⟨w.heap.size + 1, 0, none⟩)] (fun q => q.id == id) ((w.alloc (.cells b0 90)).alloc (.cells #[.int .i64 id] 3)) (hv.below (two_boxes _ _ _ _ _)) hl
    (place1 id (w.heap.size + 1) _ (by simp) (snd_box _ _ _ _ _ 0)) eg_place)
  have b0 := Lib.hid (fun c0 c1 => two_boxes w c0 c1 90 3)
  obtain ⟨a, c, rfl, _⟩ := hv
  generalize idxF (fun q => q.id == id) l 0 = x at *
  have eg := eg_place
  unfold hval
  go_enter Try.func61, Try.ntmps61
  go_wp2_with fail
  refine (H.out _).mono ?_
  rintro e w1 ⟨rfl, b1⟩
  have fin := Lib.hid (belT (b0.out _ _) b1)
  clear b1
  go_wp2_with fail
  go_ret
  exact ⟨rfl, fin.out⟩

/-- Which one of the first k upgrades first. -/
def bestK (l : List Rq) : Nat → Int
  | 0 => -1
  | k+1 => if upB (l.getD k default) && (decide (bestK l k < 0) || decide ((l.getD k default).since < (l.getD (bestK l k).toNat default).since)) then k else bestK l k
theorem bestK_bd (l : List Rq) : ∀ k, -1 ≤ bestK l k ∧ bestK l k < k
  | 0 => by simp [bestK]
  | k+1 => by
    have := bestK_bd l k
    unfold bestK
    split <;> omega
/-- Which one is granted first, if it can be; -1. -/
def firstI (l : List Rq) : Int := if bestK l l.length < 0 then idxF (fun r => r.mode == 0) l 0 else bestK l l.length
end Go.Proofs.Ytcnkmhfcgkbhbaa
namespace Go.Proofs.Ytcnkmhfcgkbhbaa
open Go.RowKit
def grant (l : List Rq) (i : Nat) : List Rq := l.set i { (l.getD i default) with mode := (l.getD i default).want, since := 0 }
theorem grant_len (l : List Rq) (i : Nat) : (grant l i).length = l.length := by simp [grant]
theorem qcells_grant (l : List Rq) (i : Nat) (h : i < l.length) : ((qcells l).set (i * 5 + 2) (.int .i64 (l.getD i default).want)).set (i * 5 + 4) (.int .i64 0) = qcells (grant l i) := by
  induction l generalizing i with
  | nil => simp at h
  | cons r l ih =>
    cases i with
    | zero => rfl
    | succ i =>
      have ih' := ih i (by simpa using h)
      have e : (r :: l).getD (i + 1) default = l.getD i default := by simp [List.getD]
      unfold grant
      rw [e]
      simp only [List.set_cons_succ]
      unfold grant at ih'
      simp only [qcells, List.flatMap_cons] at ih' ⊢
      rw [← ih']
      rw [List.set_append_right _ _ (by simp [Rq.cells]; omega), List.set_append_right _ _ (by simp [Rq.cells]; omega)]
      simp only [Rq.cells, List.length_cons, List.length_nil]
      rw [show (i + 1) * 5 + 2 - (0 + 1 + 1 + 1 + 1 + 1) = i * 5 + 2 by omega, show (i + 1) * 5 + 4 - (0 + 1 + 1 + 1 + 1 + 1) = i * 5 + 4 by omega]
theorem Sep.vq_ne {w : World} {g g' m c : Nat} {l : List Rq} {t' : TypeId} {cs' : Array Value} {rs : List Res} (h : Sep w (vq (.slice (some ⟨g, 0, none⟩) m c) l :: blk g' t' cs' :: rs)) (hl : l.length = m) : g ≠ g' := by
  subst hl
  exact Sep.vec_ne (show Sep w (vec 39 5 (.slice (some ⟨g, 0, none⟩) l.length c) l.length (qcells l) :: blk g' t' cs' :: rs) from h)
theorem Sep.vq_grant {w : World} {g m c i : Nat} {l : List Rq} {rs : List Res} (h : Sep w (vq (.slice (some ⟨g, 0, none⟩) m c) l :: rs)) (hl : l.length = m) (hi : i < m) :
    Sep ((w.setCell ⟨g, i * 5 + 2, none⟩ (.int .i64 (l.getD i default).want)).setCell ⟨g, i * 5 + 4, none⟩ (.int .i64 0)) (vq (.slice (some ⟨g, 0, none⟩) m c) (grant l i) :: rs) := by
  subst hl
  have h1 : Sep w (vec 39 5 (.slice (some ⟨g, 0, none⟩) l.length c) l.length (qcells l) :: rs) := h
  have h2 := (h1.vec_set (k := i * 5 + 2) (by rw [qcells_len]; omega) (.int .i64 (l.getD i default).want)).vec_set (k := i * 5 + 4) (by rw [List.length_set, qcells_len]; omega) (.int .i64 0)
  rw [qcells_grant l i hi] at h2
  unfold vq
  rw [grant_len]
  exact h2
/-- How many wait, or hold nothing. -/
def openB (r : Rq) : Bool := r.mode == 0 || decide (0 < r.since)
def opens (l : List Rq) : Nat := l.countP openB
/-- The scan, by at most so many grants: what is left, and who was granted. -/
def scanN : Nat → List Rq → List Int → List Rq × List Int
  | 0, l, ids => (l, ids)
  | f+1, l, ids =>
    if firstI l < 0 then (l, ids)
    else if l.any (fitsP (l.getD (firstI l).toNat default)) then (l, ids)
    else scanN f (grant l (firstI l).toNat) (ids ++ [(l.getD (firstI l).toNat default).id])
/-- Whoever waits wants something. -/
def Wants (l : List Rq) : Prop := ∀ r ∈ l, openB r = true → r.want ≠ 0
theorem idxF_bd {α : Type} [Inhabited α] (p : α → Bool) : ∀ (l : List α) (k : Nat), idxF p l k = -1 ∨ (∃ j, idxF p l k = ((k + j : Nat) : Int) ∧ j < l.length ∧ p (l.getD j default) = true)
  | [], k => .inl rfl
  | x :: l, k => by
    unfold idxF
    cases h : p x with
    | true => exact .inr ⟨0, by simp, by simp, by simpa [List.getD] using h⟩
    | false =>
      rcases idxF_bd p l (k + 1) with h' | ⟨j, h1, h2, h3⟩
      · exact .inl (by simpa using h')
      · refine .inr ⟨j + 1, by simp [h1]; omega, by simpa using h2, by simpa [List.getD] using h3⟩
theorem bestK_up (l : List Rq) : ∀ k, k ≤ l.length → 0 ≤ bestK l k → upB (l.getD (bestK l k).toNat default) = true
  | 0, _, h => by simp [bestK] at h
  | k+1, hk, h => by
    unfold bestK at h ⊢
    split
    · rename_i hc
      simp only [Int.toNat_natCast]
      simp only [Bool.and_eq_true] at hc
      exact hc.1
    · rename_i hc
      rw [if_neg hc] at h
      exact bestK_up l k (by omega) h
/-- Whom the scan would grant is there, and waits. -/
theorem firstI_spec (l : List Rq) (h : 0 ≤ firstI l) : ∃ i : Nat, firstI l = i ∧ i < l.length ∧ openB (l.getD i default) = true := by
  unfold firstI at h ⊢
  split
  · rename_i hb
    rw [if_pos hb] at h
    rcases idxF_bd (fun r : Rq => r.mode == 0) l 0 with h' | ⟨j, h1, h2, h3⟩
    · omega
    · exact ⟨j, by simpa using h1, h2, by simp only [openB, h3, Bool.true_or]⟩
  · rename_i hb
    have bd := bestK_bd l l.length
    have hu := bestK_up l l.length (Nat.le_refl _) (by omega)
    refine ⟨(bestK l l.length).toNat, by omega, by omega, ?_⟩
    simp only [upB, Bool.and_eq_true] at hu
    simp only [openB, hu.2, Bool.or_true]
theorem opens_grant : ∀ (l : List Rq) (i : Nat), i < l.length → openB (l.getD i default) = true → (l.getD i default).want ≠ 0 → opens (grant l i) + 1 = opens l
  | [], i, h, _, _ => by simp at h
  | r :: l, 0, _, h1, h2 => by
    simp only [List.getD, List.getElem?_cons_zero, Option.getD_some] at h1 h2
    have h3 : openB { r with mode := r.want, since := 0 } = false := by simp [openB, h2]
    simp only [opens, grant, List.getD, List.getElem?_cons_zero, Option.getD_some, List.set_cons_zero]
    rw [List.countP_cons_of_neg (by rw [h3]; decide), List.countP_cons_of_pos h1]
  | r :: l, i + 1, h, h1, h2 => by
    have e : (r :: l).getD (i + 1) default = l.getD i default := by simp [List.getD]
    rw [e] at h1 h2
    have := opens_grant l i (by simpa using h) h1 h2
    have e2 : grant (r :: l) (i + 1) = r :: grant l i := by unfold grant; rw [e]; rfl
    rw [e2]
    simp only [opens, List.countP_cons] at this ⊢
    omega
theorem wants_grant (l : List Rq) (i : Nat) (h : Wants l) (hi : i < l.length) (ho : openB (l.getD i default) = true) : Wants (grant l i) := by
  intro r hr hw
  unfold grant at hr
  rcases List.mem_or_eq_of_mem_set hr with h1 | h1
  · exact h r h1 hw
  · subst h1
    have := h (l.getD i default) (by simp [List.getD, hi]) ho
    exact this
theorem opens_le (l : List Rq) : opens l ≤ l.length := List.countP_le_length
end Go.Proofs.Ytcnkmhfcgkbhbaa
