/-
  Requests as the proofs see them; the contracts of the smallest functions of the queue. No condition.
-/
import Derived.Test.YtmacpjnkmkaloaaSep
namespace Go.Proofs.Ytmacpjnkmkaloaa
open Go.RowKit

structure Rq where
  id : Int
  txn : Int
  mode : Int
  want : Int
  since : Int
  deriving DecidableEq, Inhabited
def Rq.val (r : Rq) : Value := .agg #[.int .i64 r.id, .int .i64 r.txn, .int .i64 r.mode, .int .i64 r.want, .int .i64 r.since]
def Rq.cells (r : Rq) : List Value := [.int .i64 r.id, .int .i64 r.txn, .int .i64 r.mode, .int .i64 r.want, .int .i64 r.since]
def qcells (l : List Rq) : List Value := l.flatMap Rq.cells
/-- The value v is a slice of requests that reads as l. -/
def RQ (w : World) (v : Value) (l : List Rq) : Prop :=
  ∃ a c, v = .slice a l.length c ∧ l.length ≤ c ∧ (a = none → c = 0) ∧ (0 < l.length → ∃ b off, a = some ⟨b, off, none⟩ ∧ b < w.heap.size ∧ ∀ j, j < l.length →
    w.cell? ⟨b, off + j * 5, none⟩ = some (.int .i64 (l.getD j default).id) ∧ w.cell? ⟨b, off + j * 5 + 1, none⟩ = some (.int .i64 (l.getD j default).txn) ∧ w.cell? ⟨b, off + j * 5 + 2, none⟩ = some (.int .i64 (l.getD j default).mode) ∧
    w.cell? ⟨b, off + j * 5 + 3, none⟩ = some (.int .i64 (l.getD j default).want) ∧ w.cell? ⟨b, off + j * 5 + 4, none⟩ = some (.int .i64 (l.getD j default).since))
theorem RQ.below {w w' : World} {v : Value} {l : List Rq} (h : RQ w v l) (hb : Below w.heap.size w w') : RQ w' v l := by
  obtain ⟨a, c, hv, hc, hna, hr⟩ := h
  refine ⟨a, c, hv, hc, hna, fun h0 => ?_⟩
  obtain ⟨b, off, ha, hlt, hz⟩ := hr h0
  have k : ∀ o, w'.cell? ⟨b, o, none⟩ = w.cell? ⟨b, o, none⟩ := fun o => hb.cell (p := ⟨b, o, none⟩) hlt
  exact ⟨b, off, ha, Nat.lt_of_lt_of_le hlt hb.size, fun j hj => by rw [k, k, k, k, k]; exact hz j hj⟩
theorem belT {w w1 w2 : World} (h : Below w.heap.size w w1) (h' : Below w1.heap.size w1 w2) : Below w.heap.size w w2 := h.trans (h'.mono h.size)

theorem belA {w w1 : World} (o : Obj) (h : Below (w.alloc o).heap.size (w.alloc o) w1) : Below w.heap.size w w1 := belT ((Below.refl _ _).alloc (Nat.le_refl _) o) h
/-- A boxed request behind calls that only make memory. -/
theorem cellsA {w w1 : World} {a0 a1 a2 a3 a4 : Value} {t : TypeId} (h : Below (w.alloc (.cells #[a0, a1, a2, a3, a4] t)).heap.size (w.alloc (.cells #[a0, a1, a2, a3, a4] t)) w1) (b0 b1 b2 b3 b4 : Value) (e : #[a0, a1, a2, a3, a4] = #[b0, b1, b2, b3, b4]) :
    w1.cell? ⟨w.heap.size, 0, none⟩ = some b0 ∧ w1.cell? ⟨w.heap.size, 1, none⟩ = some b1 ∧ w1.cell? ⟨w.heap.size, 2, none⟩ = some b2 ∧ w1.cell? ⟨w.heap.size, 3, none⟩ = some b3 ∧ w1.cell? ⟨w.heap.size, 4, none⟩ = some b4 := by
  rw [e] at h
  have hb := (Blk.new w t #[b0, b1, b2, b3, b4]).below' h
  exact ⟨hb.cell 0, hb.cell 1, hb.cell 2, hb.cell 3, hb.cell 4⟩
theorem holds_any (r : Rq) (w : World) : Calls Try.prog 70 #[r.val] w fun e w' => e = .returned (.bool (r.mode != 0)) ∧ Below w.heap.size w w' := by
  obtain ⟨id, txn, mode, want, since⟩ := r
  unfold Rq.val
  go_enter Try.func70, Try.ntmps70
  go_wp2
  go_ret
  exact ⟨rfl, (Below.refl _ _).alloc (Nat.le_refl _) _⟩
theorem waits_any (r : Rq) (w : World) : Calls Try.prog 55 #[r.val] w fun e w' => e = .returned (.bool (decide (0 < r.since))) ∧ Below w.heap.size w w' := by
  obtain ⟨id, txn, mode, want, since⟩ := r
  unfold Rq.val
  go_enter Try.func55, Try.ntmps55
  go_wp2
  go_ret
  exact ⟨rfl, (Below.refl _ _).alloc (Nat.le_refl _) _⟩
def upB (r : Rq) : Bool := r.mode != 0 && decide (0 < r.since)
theorem upgrades_any (r : Rq) (w : World) : Calls Try.prog 69 #[r.val] w fun e w' => e = .returned (.bool (upB r)) ∧ Below w.heap.size w w' := by
  have H1 := Lib.hid (fun w => holds_any r w)
  have H2 := Lib.hid (fun w => waits_any r w)
  obtain ⟨id, txn, mode, want, since⟩ := r
  unfold Rq.val at *
  simp only at H1 H2
  by_cases h : mode = 0
  · subst h
    go_enter Try.func69, Try.ntmps69
    go_wp2_with fail
    refine (H1.out _).mono ?_
    rintro e w1 ⟨rfl, b1⟩
    replace b1 := Lib.hid b1
    go_wp2_with fail
    go_ret
    exact ⟨rfl, belA _ b1.out⟩
  · have h0 : (mode != 0) = true := by simpa using h
    have E := Lib.hid (show upB ⟨id, txn, mode, want, since⟩ = decide (0 < since) by simp only [upB, h0, Bool.true_and])
    rw [h0] at H1
    clear h
    go_enter Try.func69, Try.ntmps69
    go_wp2_with fail
    refine (H1.out _).mono ?_
    rintro e w1 ⟨rfl, b1⟩
    have c := cellsA b1 _ _ _ _ _ rfl
    obtain ⟨c0, c1, c2, c3, c4⟩ := c
    replace b1 := Lib.hid b1
    go_wp2_with fail
    refine (H2.out _).mono ?_
    rintro e w2 ⟨rfl, b2⟩
    replace b1 := Lib.hid (belT (belA _ b1.out) b2)
    clear b2 c0 c1 c2 c3 c4
    go_wp2_with fail
    go_ret
    exact ⟨by rw [E.out]; rfl, b1.out⟩
/-- What is asked of a function value that is called with requests. -/
def PredQ (g : Nat) (lb : Array Value) (p : Rq → Bool) (w : World) : Prop :=
  ∀ (W : World) (r : Rq), Below w.heap.size w W → Calls Try.prog g (#[r.val] ++ lb) W fun e w' => e = .returned (.bool (p r)) ∧ Below W.heap.size W w'
theorem PredQ.later {g : Nat} {lb : Array Value} {p : Rq → Bool} {w w' : World} (h : PredQ g lb p w) (hb : Below w.heap.size w w') : PredQ g lb p w' := fun W r hb' => h W r (hb.trans (hb'.mono hb.size))
/-- Where the first one is that meets p; -1. -/
def idxF {α : Type} (p : α → Bool) : List α → Nat → Int
  | [], _ => -1
  | x :: l, k => if p x then (k : Int) else idxF p l (k + 1)
theorem drop_at (l : List Rq) (k : Nat) (h : k < l.length) : l.drop k = l.getD k default :: l.drop (k + 1) := by
  rw [List.drop_eq_getElem_cons h]
  simp [List.getD, h]
set_option maxHeartbeats 1000000 in
theorem index_any (v : Value) (l : List Rq) (g : Nat) (lb : Array Value) (p : Rq → Bool) (w : World) (hv : RQ w v l) (hl : l.length ≤ 1000) (hp : PredQ g lb p w)
    (eg : ∀ args w, (callFunc g args).run Try.prog w = .ok (.enter g args) w) :
    Calls Try.prog 63 #[v, .func (.func g) #[] lb] w fun e w' => e = .returned (.int .i64 (idxF p l 0)) ∧ Below w.heap.size w w' := by
  obtain ⟨a, c, rfl, hc, _, hr⟩ := hv
  have HR := Lib.hid hr
  have HP := Lib.hid hp
  clear hr hp
  generalize hn : l.length = n at *
  replace hn := Lib.hid hn
  go_enter Try.func63, Try.ntmps63
  go_wp2
  go_loopw [8] (fun i wr => ∃ k : Nat, k ≤ n ∧ i = .int .i64 k ∧ Hid (idxF p l 0 = idxF p (l.drop k) k) ∧ Hid (Below w.heap.size w wr)) (fun i _ => n - (intOf i).toNat)
  case atStart => exact ⟨0, Nat.zero_le _, rfl, rfl, Below.refl _ _⟩
  case round =>
    obtain ⟨k, hk, rfl, he, hb⟩ := hrel
    by_cases hlt : k < n
    · obtain ⟨b, off, rfl, hbl, hz⟩ := HR.out (by omega)
      obtain ⟨z0, z1, z2, z3, z4⟩ := hz k hlt
      have kk : ∀ o, wr.cell? ⟨b, o, none⟩ = w.cell? ⟨b, o, none⟩ := fun o => hb.out.cell (p := ⟨b, o, none⟩) hbl
      rw [← kk] at z0 z1 z2 z3 z4
      have E := Lib.hid (drop_at l k (by rw [hn.out]; exact hlt))
      generalize l.getD k default = r at *
      have hq := Lib.hid (HP.out wr r hb.out)
      clear kk hz HR
      obtain ⟨id, txn, mode, want, since⟩ := r
      simp only [Rq.val] at hq z0 z1 z2 z3 z4
      go_wp2_with fail
      refine hq.out.mono ?_
      rintro e w1 ⟨rfl, b1⟩
      replace hb := Lib.hid (hb.out.trans (b1.mono hb.out.size))
      clear z0 z1 z2 z3 z4 b1 hq
      cases hpr : p ⟨id, txn, mode, want, since⟩ with
      | true =>
        have E2 := Lib.hid (show idxF p l 0 = (k : Int) by rw [he.out, E.out]; simp only [idxF, hpr, if_true])
        go_wp2_with fail
        go_ret
        exact ⟨by rw [E2.out]; rfl, hb.out⟩
      | false =>
        have E2 := Lib.hid (show idxF p l 0 = idxF p (l.drop (k + 1)) (k + 1) by rw [he.out, E.out]; simp only [idxF, hpr]; rfl)
        go_wp2_with fail
        go_roundw
        case rel => exact ⟨k + 1, by omega, by go_num, E2, hb⟩
        case measure => simp [intOf]; omega
    · have hk2 : k = n := by omega
      have E := Lib.hid (show idxF p l 0 = -1 by rw [he.out, List.drop_eq_nil_of_le (by rw [hn.out]; omega)]; rfl)
      clear he
      go_wp2_with fail
      go_ret
      exact ⟨by rw [E.out]; rfl, hb.out⟩
theorem idxF_any {α : Type} (p : α → Bool) : ∀ (l : List α) (k : Nat), decide (0 ≤ idxF p l k) = l.any p
  | [], k => by simp [idxF]
  | x :: l, k => by
    unfold idxF
    cases h : p x with
    | true => simp [h]
    | false => simp [h, idxF_any p l (k + 1)]
theorem contains_any (v : Value) (l : List Rq) (g : Nat) (lb : Array Value) (p : Rq → Bool) (w : World) (hv : RQ w v l) (hl : l.length ≤ 1000) (hp : PredQ g lb p w)
    (eg : ∀ args w, (callFunc g args).run Try.prog w = .ok (.enter g args) w) :
    Calls Try.prog 53 #[v, .func (.func g) #[] lb] w fun e w' => e = .returned (.bool (l.any p)) ∧ Below w.heap.size w w' := by
  have H := Lib.hid (index_any v l g lb p w hv hl hp eg)
  obtain ⟨a, c, rfl, _⟩ := hv
  rw [← idxF_any p l 0]
  clear hp eg
  generalize idxF p l 0 = x at *
  go_enter Try.func53, Try.ntmps53
  go_wp2_with fail
  refine H.out.mono ?_
  rintro e w1 ⟨rfl, b1⟩
  replace b1 := Lib.hid b1
  go_wp2_with fail
  go_ret
  exact ⟨rfl, b1.out⟩
end Go.Proofs.Ytmacpjnkmkaloaa
