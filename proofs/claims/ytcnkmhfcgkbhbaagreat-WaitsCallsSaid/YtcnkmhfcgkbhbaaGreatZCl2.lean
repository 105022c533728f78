/-
  Contracts and plain laws that the walk leans on, part 2. No condition.
-/
import Derived.Test.YtcnkmhfcgkbhbaaGreatZCl1
import Derived.Deep.WholeRow
import Derived.Deep.RegionWith
import Derived.Deep.RegionHeld3
import Derived.Deep.LoopGhost
import Derived.Deep.DeepCutAuto
import Derived.Shelf.SlicesE.IndexFunc
import Derived.BigRegion
import Derived.Laws.StructEq
import Derived.Deep.RegionLaw
namespace Go.Proofs.YtcnkmhfcgkbhbaaGreat
open Go.RowKit
theorem qcells_len (l : List Rq) : (qcells l).length = l.length * 5 := by
  induction l with
  | nil => rfl
  | cons r l ih => simp only [qcells, List.flatMap_cons, List.length_append, List.length_cons] at *; rw [ih, Rq.cells]; simp; omega
theorem qcells_at (l : List Rq) (j : Nat) (h : j < l.length) : ∀ f, f < 5 → (qcells l)[j * 5 + f]? = (Rq.cells (l.getD j default))[f]? := by
  induction l generalizing j with
  | nil => simp at h
  | cons r l ih =>
    intro f hf
    cases j with
    | zero => simp only [qcells, List.flatMap_cons]; rw [Nat.zero_mul, Nat.zero_add, List.getElem?_append_left (by simp [Rq.cells]; omega)]; rfl
    | succ j =>
      simp only [qcells, List.flatMap_cons]
      rw [List.getElem?_append_right (by simp [Rq.cells]; omega)]
      have := ih j (by simpa using h) f hf
      simp only [qcells] at this
      rw [show (j + 1) * 5 + f - r.cells.length = j * 5 + f by simp [Rq.cells]; omega, this]
      simp [List.getD]
theorem RQ.src {w : World} {v : Value} {l : List Rq} (h : RQ w v l) : SrcA w 5 v l.length (qcells l) := by
  obtain ⟨a, c, rfl, hc, hna, hr⟩ := h
  cases a with
  | none =>
    have h0 : l.length = 0 := by
      rcases Nat.eq_zero_or_pos l.length with h | h
      · exact h
      · obtain ⟨b, off, h, _⟩ := hr h; cases h
    have hl := List.eq_nil_of_length_eq_zero h0
    subst hl
    exact .inl ⟨by rw [hna rfl]; rfl, rfl, rfl⟩
  | some ad =>
    refine .inr ⟨ad, c, rfl, qcells_len l, fun j u hu => ?_⟩
    have hj : j < l.length * 5 := by
      rcases Nat.lt_or_ge j (l.length * 5) with h | h
      · exact h
      · rw [List.getElem?_eq_none (by rw [qcells_len]; exact h)] at hu; cases hu
    obtain ⟨b, off, hb, _, hz⟩ := hr (by omega)
    injection hb with hb
    subst hb
    obtain ⟨z0, z1, z2, z3, z4⟩ := hz (j / 5) (by omega)
    rw [Addr.add_lit]
    have hq := qcells_at l (j / 5) (by omega) (j % 5) (by omega)
    rw [show j / 5 * 5 + j % 5 = j by omega, hu] at hq
    have e : off + j = off + j / 5 * 5 + j % 5 := by omega
    rw [e]
    have h5 : j % 5 = 0 ∨ j % 5 = 1 ∨ j % 5 = 2 ∨ j % 5 = 3 ∨ j % 5 = 4 := by omega
    rcases h5 with h | h | h | h | h <;> rw [h] at hq ⊢ <;> simp only [Rq.cells, List.getElem?_cons_zero, List.getElem?_cons_succ] at hq <;> rw [hq] <;> assumption
theorem RQ.of_own {w : World} {base : Nat} {v : Value} {l : List Rq} (h : w.ownsRow base 64 5 v l.length (qcells l)) : RQ w v l := by
  rcases h.2 with ⟨hv, h0⟩ | ⟨g, cap, cur, rfl, _, hg, hnc, _⟩
  · subst hv
    have hl := List.eq_nil_of_length_eq_zero h0
    subst hl
    exact ⟨none, 0, rfl, Nat.le_refl _, fun _ => rfl, fun h => absurd h (by simp)⟩
  · refine ⟨some ⟨g, 0, none⟩, cap, rfl, hnc, (fun h => by cases h), fun _ => ⟨g, 0, rfl, (Array.getElem?_eq_some_iff.1 hg).1, fun j hj => ?_⟩⟩
    have key : ∀ f, f < 5 → ∀ u, (Rq.cells (l.getD j default))[f]? = some u → w.cell? ⟨g, 0 + j * 5 + f, none⟩ = some u := by
      intro f hf u hu
      have := h.cells (g := g) rfl (j * 5 + f) u (by rw [qcells_at l j hj f hf]; exact hu)
      rw [Addr.add_lit] at this
      rw [show 0 + j * 5 + f = 0 + (j * 5 + f) by omega]
      exact this
    exact ⟨key 0 (by omega) _ rfl, key 1 (by omega) _ rfl, key 2 (by omega) _ rfl, key 3 (by omega) _ rfl, key 4 (by omega) _ rfl⟩
def hval (t r : Int) (q : Value) (n : Int) : Value := .agg #[.int .i64 t, .int .i64 r, q, .int .i64 n]
end Go.Proofs.YtcnkmhfcgkbhbaaGreat
namespace Go.Proofs.YtcnkmhfcgkbhbaaGreat
open Go.RowKit
theorem wpList_store_new {P : Program} {ops : Array Oper} {rest : List Oper} {o : Oper} {a : Act} {w0 : World} {Q : Exit → Act → World → Prop} (hgd : o.guard = none) (ty : TypeId) (x y : Operand) (ho : o.op = .store ty x y)
    (c c' : Array Value) (hx : a.eval x = .pointer (some ⟨w0.heap.size, 0, none⟩)) (hy : a.eval y = .agg c')
    (hi : (P.info? ty).map (·.size) = some c'.size) (hs : c.size = c'.size) (h1 : c'.all (·.oneCell') = true)
    (h : wpList P ops Q rest (a.put o.dst undef) (w0.alloc (.cells c' ty))) : wpList P ops Q (o :: rest) a (w0.alloc (.cells c ty)) :=
  wpList_plain hgd fun K hK => by
    have hr := run_storeAt_new (P := P) w0 ty c c' hi hs h1
    unfold Oper.wp execOp
    simp only [ho, hx, hy, Sem.run_bind, Sem.run_pure, Result.andThen_ok, hr]
    exact hK _ _ h
def covArr : Array Value := #[.int .i64 1, .int .i64 0, .int .i64 0, .int .i64 0, .int .i64 0, .int .i64 0, .int .i64 0,
  .int .i64 1, .int .i64 1, .int .i64 0, .int .i64 0, .int .i64 0, .int .i64 0, .int .i64 0,
  .int .i64 1, .int .i64 1, .int .i64 1, .int .i64 0, .int .i64 0, .int .i64 0, .int .i64 0,
  .int .i64 1, .int .i64 1, .int .i64 0, .int .i64 1, .int .i64 0, .int .i64 0, .int .i64 0,
  .int .i64 1, .int .i64 1, .int .i64 1, .int .i64 1, .int .i64 1, .int .i64 0, .int .i64 0,
  .int .i64 1, .int .i64 1, .int .i64 0, .int .i64 1, .int .i64 0, .int .i64 1, .int .i64 0,
  .int .i64 1, .int .i64 1, .int .i64 1, .int .i64 1, .int .i64 1, .int .i64 1, .int .i64 1]
def comArr : Array Value := #[.int .i64 1, .int .i64 1, .int .i64 1, .int .i64 1, .int .i64 1, .int .i64 1, .int .i64 1,
  .int .i64 1, .int .i64 1, .int .i64 1, .int .i64 1, .int .i64 1, .int .i64 1, .int .i64 0,
  .int .i64 1, .int .i64 1, .int .i64 1, .int .i64 0, .int .i64 0, .int .i64 0, .int .i64 0,
  .int .i64 1, .int .i64 1, .int .i64 0, .int .i64 1, .int .i64 0, .int .i64 1, .int .i64 0,
  .int .i64 1, .int .i64 1, .int .i64 0, .int .i64 0, .int .i64 0, .int .i64 0, .int .i64 0,
  .int .i64 1, .int .i64 1, .int .i64 0, .int .i64 1, .int .i64 0, .int .i64 0, .int .i64 0,
  .int .i64 1, .int .i64 0, .int .i64 0, .int .i64 0, .int .i64 0, .int .i64 0, .int .i64 0]
theorem size43 : (Tryz.prog.info? 118).map (·.size) = some 49 := by kernel_rfl
theorem com_one : comArr.all (·.oneCell') = true := by simp [comArr, Value.oneCell']
theorem com_size : 49 = comArr.size := by simp [comArr]
set_option maxRecDepth 100000 in
theorem compat_t (w : World) : Calls Tryz.prog 94 #[] w fun e w' => e = .returned (.agg comArr) ∧ w' = w.alloc (.cells comArr 118) := by
  go_enter Tryz.func94, Tryz.ntmps94
  go_wp2_with (refine wpList_store_new rfl 118 _ _ rfl _ comArr rfl rfl (by rw [← com_size]; exact size43) (by rw [← com_size]; simp) com_one ?_)
  refine bodyPost_ret (results_cell_row rfl _ _ w.heap.size 118 comArr (0, 0) _ rfl (heap_alloc_new w _) Tryz.underlying118 rfl (by rw [← com_size]; exact size43)) rfl ⟨rfl, rfl⟩

def knownB (m : Int) : Bool := decide (0 ≤ m ∧ m ≤ 6)
theorem known_any (m : Int) (w : World) : Calls Tryz.prog 106 #[.int .i64 m] w fun e w' => e = .returned (.bool (knownB m)) ∧ w = w' := by
  unfold knownB
  by_cases h1 : 0 ≤ m
  · by_cases h2 : m ≤ 6
    · rw [show decide (0 ≤ m ∧ m ≤ 6) = true by simp [h1, h2]]
      go_enter Tryz.func106, Tryz.ntmps106
      go_wp2
      go_ret
      exact ⟨rfl, rfl⟩
    · rw [show decide (0 ≤ m ∧ m ≤ 6) = false by simp [h2]]
      go_enter Tryz.func106, Tryz.ntmps106
      go_wp2
      go_ret
      exact ⟨rfl, rfl⟩
  · rw [show decide (0 ≤ m ∧ m ≤ 6) = false by simp [h1]]
    go_enter Tryz.func106, Tryz.ntmps106
    go_wp2
    go_ret
    exact ⟨rfl, rfl⟩
theorem known_nat {m : Int} (h : knownB m = true) : ∃ k : Nat, m = k ∧ k < 7 := by
  simp [knownB] at h
  obtain ⟨k, rfl⟩ := Int.eq_ofNat_of_zero_le h.1
  exact ⟨k, rfl, by omega⟩
def cellB (arr : Array Value) (i : Nat) : Bool := match arr[i]? with | some (.int _ n) => n == 1 | _ => false
def tabB (arr : Array Value) (a b : Int) : Bool := knownB a && knownB b && cellB arr (a.toNat * 7 + b.toNat)

theorem is_any (cs : Array Value) (hcs : ∀ i, i < 49 → ∃ n, cs[i]? = some (.int .i64 n)) (a b : Int) (w : World) :
    Calls Tryz.prog 95 #[.agg cs, .int .i64 a, .int .i64 b] w fun e w' => e = .returned (.bool (tabB cs a b)) ∧ w' = w.alloc (.cells cs 118) := by
  have Ka := Lib.hid (fun W => known_any a W)
  have Kb := Lib.hid (fun W => known_any b W)
  cases ha : knownB a with
  | false =>
    rw [show tabB cs a b = false by simp [tabB, ha]]
    clear hcs
    go_enter Tryz.func95, Tryz.ntmps95
    go_wp2_with (go_at_call 106; refine (Ka.out _).mono ?_; rintro e w' ⟨rfl, rfl⟩)
    go_ret
    exact ⟨rfl, rfl⟩
  | true =>
    cases hb : knownB b with
    | false =>
      rw [show tabB cs a b = false by simp [tabB, hb]]
      clear hcs
      go_enter Tryz.func95, Tryz.ntmps95
      go_wp2_with fail
      refine (Ka.out _).mono ?_
      rintro e w' ⟨rfl, rfl⟩
      go_wp2_with fail
      refine (Kb.out _).mono ?_
      rintro e w' ⟨rfl, rfl⟩
      go_wp2_with fail
      go_ret
      exact ⟨rfl, rfl⟩
    | true =>
      obtain ⟨i, rfl, hi⟩ := known_nat ha
      obtain ⟨j, rfl, hj⟩ := known_nat hb
      obtain ⟨n, hn⟩ := hcs (i * 7 + j) (by omega)
      have e := Lib.hid (show tabB cs i j = (n == 1) by simp [tabB, ha, hb, cellB, hn])
      clear hcs
      by_cases h1 : n = 1
      · have h1' : (n == 1) = true := by simpa using h1
        clear h1
        go_enter Tryz.func95, Tryz.ntmps95
        go_wp2_with fail
        refine (Ka.out _).mono ?_
        rintro e w' ⟨rfl, rfl⟩
        go_wp2_with fail
        refine (Kb.out _).mono ?_
        rintro e w' ⟨rfl, rfl⟩
        go_wp2_with fail
        go_ret
        exact ⟨by rw [e.out, h1']; rfl, rfl⟩
      · have h1' : (n == 1) = false := by simpa using h1
        clear h1
        go_enter Tryz.func95, Tryz.ntmps95
        go_wp2_with fail
        refine (Ka.out _).mono ?_
        rintro e w' ⟨rfl, rfl⟩
        go_wp2_with fail
        refine (Kb.out _).mono ?_
        rintro e w' ⟨rfl, rfl⟩
        go_wp2_with fail
        go_ret
        exact ⟨by rw [e.out, h1']; rfl, rfl⟩
theorem comArr_ints : ∀ i, i < 49 → ∃ n, comArr[i]? = some (.int .i64 n) := by
  intro i hi
  have : ∀ i : Fin 49, (match comArr[i.val]? with | some (.int .i64 _) => true | _ => false) = true := by decide
  have h := this ⟨i, hi⟩
  dsimp only at h
  split at h
  · rename_i n hn; exact ⟨n, hn⟩
  · cases h
theorem below_alloc (w : World) (o : Obj) : Below w.heap.size w (w.alloc o) := (Below.refl _ _).alloc (Nat.le_refl _) _
theorem below_alloc2 (w : World) (o o' : Obj) : Below w.heap.size w ((w.alloc o).alloc o') := (below_alloc w o).alloc (by simp) _
def covB (a b : Int) : Bool := tabB covArr a b
def comB (a b : Int) : Bool := tabB comArr a b
theorem compat_any (a b : Int) (w : World) : Calls Tryz.prog 80 #[.int .i64 a, .int .i64 b] w fun e w' => e = .returned (.bool (comB a b)) ∧ Below w.heap.size w w' := by
  have HC := Lib.hid (compat_t w)
  have HI := Lib.hid (fun W => is_any comArr comArr_ints a b W)
  have hb := Lib.hid (below_alloc2 w (.cells comArr 118) (.cells comArr 118))
  go_enter Tryz.func80, Tryz.ntmps80
  go_wp2_with fail
  refine HC.out.mono ?_
  rintro e w' ⟨rfl, rfl⟩
  go_wp2_with fail
  refine (HI.out _).mono ?_
  rintro e w' ⟨rfl, rfl⟩
  go_wp2_with fail
  go_ret
  exact ⟨rfl, hb.out⟩
end Go.Proofs.YtcnkmhfcgkbhbaaGreat
namespace Go.Proofs.YtcnkmhfcgkbhbaaGreat
open Go.RowKit

theorem place1 (id0 : Int) (B : Nat) (w : World) (hB : B < w.heap.size) (hc : w.cell? ⟨B, 0, none⟩ = some (.int .i64 id0)) : PredQ 93 #[.pointer (some ⟨B, 0, none⟩)] (fun r => r.id == id0) w := fun W r hb => by
  have c := (hb.cell (p := ⟨B, 0, none⟩) hB).trans hc
  have hs := hb.size
  have hl := Nat.lt_of_lt_of_le hB hs
  obtain ⟨id, txn, mode, want, since⟩ := r
  show Calls Tryz.prog 93 #[.agg #[.int .i64 id, .int .i64 txn, .int .i64 mode, .int .i64 want, .int .i64 since], .pointer (some ⟨B, 0, none⟩)] W _
  clear hb hc
  go_enter Tryz.func93, Tryz.ntmps93
  go_wp2
  go_ret
  exact ⟨rfl, (Below.refl _ _).alloc (Nat.le_refl _) _⟩
theorem eg_place : ∀ args w, (callFunc 93 args).run Tryz.prog w = .ok (.enter 93 args) w := enters_of Tryz.func93 (by kernel_rfl) rfl
theorem two_boxes (w : World) (b0 b1 : Array Value) (t0 t1 : TypeId) : Below w.heap.size w ((w.alloc (.cells b0 t0)).alloc (.cells b1 t1)) := ((Below.refl _ _).alloc (Nat.le_refl _) _).alloc (by simp) _
theorem snd_box (w : World) (b0 b1 : Array Value) (t0 t1 : TypeId) (i : Nat) : ((w.alloc (.cells b0 t0)).alloc (.cells b1 t1)).cell? ⟨w.heap.size + 1, i, none⟩ = b1[i]? := by
  have := (Blk.new (w.alloc (.cells b0 t0)) t1 b1).cell i
  rw [World.size_alloc] at this
  exact this
theorem place_any (t r n : Int) (v : Value) (l : List Rq) (id : Int) (w : World) (hv : RQ w v l) (hl : l.length ≤ 1000) :
    Calls Tryz.prog 78 #[hval t r v n, .int .i64 id] w fun e w' => e = .returned (.int .i64 (idxF (fun q => q.id == id) l 0)) ∧ Below w.heap.size w w' := by
  have H := Lib.hid (fun b0 => index_any v l 93 #[.pointer (some ⟨w.heap.size + 1, 0, none⟩)] (fun q => q.id == id) ((w.alloc (.cells b0 103)).alloc (.cells #[.int .i64 id] 3)) (hv.below (two_boxes _ _ _ _ _)) hl
    (place1 id (w.heap.size + 1) _ (by simp) (snd_box _ _ _ _ _ 0)) eg_place)
  have b0 := Lib.hid (fun c0 c1 => two_boxes w c0 c1 103 3)
  obtain ⟨a, c, rfl, _⟩ := hv
  generalize idxF (fun q => q.id == id) l 0 = x at *
  have eg := eg_place
  unfold hval
  go_enter Tryz.func78, Tryz.ntmps78
  go_wp2_with fail
  refine (H.out _).mono ?_
  rintro e w1 ⟨rfl, b1⟩
  have fin := Lib.hid (belT (b0.out _ _) b1)
  clear b1
  go_wp2_with fail
  go_ret
  exact ⟨rfl, fin.out⟩

end Go.Proofs.YtcnkmhfcgkbhbaaGreat
namespace Go.Proofs.YtcnkmhfcgkbhbaaGreat
open Go.RowKit
theorem idxF_bd {α : Type} [Inhabited α] (p : α → Bool) : ∀ (l : List α) (k : Nat), idxF p l k = -1 ∨ (∃ j, idxF p l k = ((k + j : Nat) : Int) ∧ j < l.length ∧ p (l.getD j default) = true)
  | [], k => .inl rfl
  | x :: l, k => by
    unfold idxF
    cases h : p x with
    | true => exact .inr ⟨0, by simp, by simp, by simpa [List.getD] using h⟩
    | false =>
      rcases idxF_bd p l (k + 1) with h' | ⟨j, h1, h2, h3⟩
      · exact .inl (by simpa using h')
      · refine .inr ⟨j + 1, by simp [h1]; omega, by simpa using h2, by simpa [List.getD] using h3⟩
end Go.Proofs.YtcnkmhfcgkbhbaaGreat
namespace Go.Proofs.YtcnkmhfcgkbhbaaGreat
open Go.RowKit
theorem knownR_any (m : Int) (w : World) : Calls Tryz.prog 75 #[.int .i64 m] w fun e w' => e = .returned (.bool (knownB m)) ∧ w = w' := by
  unfold knownB
  by_cases h1 : 0 ≤ m
  · by_cases h2 : m ≤ 6
    · rw [show decide (0 ≤ m ∧ m ≤ 6) = true by simp [h1, h2]]
      go_enter Tryz.func75, Tryz.ntmps75
      go_wp2
      go_ret
      exact ⟨rfl, rfl⟩
    · rw [show decide (0 ≤ m ∧ m ≤ 6) = false by simp [h2]]
      go_enter Tryz.func75, Tryz.ntmps75
      go_wp2
      go_ret
      exact ⟨rfl, rfl⟩
  · rw [show decide (0 ≤ m ∧ m ≤ 6) = false by simp [h1]]
    go_enter Tryz.func75, Tryz.ntmps75
    go_wp2
    go_ret
    exact ⟨rfl, rfl⟩
def pl (b : Bool) : UInt8 := if b then 43 else 46
/-- Seven signs: a + where the modes agree. -/
def signs (f : Nat → Bool) : ByteArray := ⟨#[pl (f 0), pl (f 1), pl (f 2), pl (f 3), pl (f 4), pl (f 5), pl (f 6)]⟩
def comRow (k : Nat) : ByteArray := signs (fun b => comB k b)
def covRow (k : Nat) : ByteArray := signs (fun b => covB k b)
theorem row_any (k : Nat) (hk : k < 7) (w : World) : Calls Tryz.prog 77 #[.int .i64 k] w fun e w' => e = .returned (.string (comRow k)) ∧ Below w.heap.size w w' := by
  have : k = 0 ∨ k = 1 ∨ k = 2 ∨ k = 3 ∨ k = 4 ∨ k = 5 ∨ k = 6 := by omega
  rcases this with rfl | rfl | rfl | rfl | rfl | rfl | rfl
  · have E := Lib.hid (show comRow 0 = ⟨#[43, 43, 43, 43, 43, 43, 43]⟩ by decide +kernel)
    go_enter Tryz.func77, Tryz.ntmps77
    go_wp2
    go_ret
    exact ⟨by rw [E.out]; rfl, (Below.refl _ _).alloc (Nat.le_refl _) _⟩
  · have E := Lib.hid (show comRow 1 = ⟨#[43, 43, 43, 43, 43, 43, 46]⟩ by decide +kernel)
    go_enter Tryz.func77, Tryz.ntmps77
    go_wp2
    go_ret
    exact ⟨by rw [E.out]; rfl, (Below.refl _ _).alloc (Nat.le_refl _) _⟩
  · have E := Lib.hid (show comRow 2 = ⟨#[43, 43, 43, 46, 46, 46, 46]⟩ by decide +kernel)
    go_enter Tryz.func77, Tryz.ntmps77
    go_wp2
    go_ret
    exact ⟨by rw [E.out]; rfl, (Below.refl _ _).alloc (Nat.le_refl _) _⟩
  · have E := Lib.hid (show comRow 3 = ⟨#[43, 43, 46, 43, 46, 43, 46]⟩ by decide +kernel)
    go_enter Tryz.func77, Tryz.ntmps77
    go_wp2
    go_ret
    exact ⟨by rw [E.out]; rfl, (Below.refl _ _).alloc (Nat.le_refl _) _⟩
  · have E := Lib.hid (show comRow 4 = ⟨#[43, 43, 46, 46, 46, 46, 46]⟩ by decide +kernel)
    go_enter Tryz.func77, Tryz.ntmps77
    go_wp2
    go_ret
    exact ⟨by rw [E.out]; rfl, (Below.refl _ _).alloc (Nat.le_refl _) _⟩
  · have E := Lib.hid (show comRow 5 = ⟨#[43, 43, 46, 43, 46, 46, 46]⟩ by decide +kernel)
    go_enter Tryz.func77, Tryz.ntmps77
    go_wp2
    go_ret
    exact ⟨by rw [E.out]; rfl, (Below.refl _ _).alloc (Nat.le_refl _) _⟩
  · have E := Lib.hid (show comRow 6 = ⟨#[43, 46, 46, 46, 46, 46, 46]⟩ by decide +kernel)
    go_enter Tryz.func77, Tryz.ntmps77
    go_wp2
    go_ret
    exact ⟨by rw [E.out]; rfl, (Below.refl _ _).alloc (Nat.le_refl _) _⟩
theorem under_any (k : Nat) (hk : k < 7) (w : World) : Calls Tryz.prog 91 #[.int .i64 k] w fun e w' => e = .returned (.string (covRow k)) ∧ Below w.heap.size w w' := by
  have : k = 0 ∨ k = 1 ∨ k = 2 ∨ k = 3 ∨ k = 4 ∨ k = 5 ∨ k = 6 := by omega
  rcases this with rfl | rfl | rfl | rfl | rfl | rfl | rfl
  · have E := Lib.hid (show covRow 0 = ⟨#[43, 46, 46, 46, 46, 46, 46]⟩ by decide +kernel)
    go_enter Tryz.func91, Tryz.ntmps91
    go_wp2
    go_ret
    exact ⟨by rw [E.out]; rfl, (Below.refl _ _).alloc (Nat.le_refl _) _⟩
  · have E := Lib.hid (show covRow 1 = ⟨#[43, 43, 46, 46, 46, 46, 46]⟩ by decide +kernel)
    go_enter Tryz.func91, Tryz.ntmps91
    go_wp2
    go_ret
    exact ⟨by rw [E.out]; rfl, (Below.refl _ _).alloc (Nat.le_refl _) _⟩
  · have E := Lib.hid (show covRow 2 = ⟨#[43, 43, 43, 46, 46, 46, 46]⟩ by decide +kernel)
    go_enter Tryz.func91, Tryz.ntmps91
    go_wp2
    go_ret
    exact ⟨by rw [E.out]; rfl, (Below.refl _ _).alloc (Nat.le_refl _) _⟩
  · have E := Lib.hid (show covRow 3 = ⟨#[43, 43, 46, 43, 46, 46, 46]⟩ by decide +kernel)
    go_enter Tryz.func91, Tryz.ntmps91
    go_wp2
    go_ret
    exact ⟨by rw [E.out]; rfl, (Below.refl _ _).alloc (Nat.le_refl _) _⟩
  · have E := Lib.hid (show covRow 4 = ⟨#[43, 43, 43, 43, 43, 46, 46]⟩ by decide +kernel)
    go_enter Tryz.func91, Tryz.ntmps91
    go_wp2
    go_ret
    exact ⟨by rw [E.out]; rfl, (Below.refl _ _).alloc (Nat.le_refl _) _⟩
  · have E := Lib.hid (show covRow 5 = ⟨#[43, 43, 46, 43, 46, 43, 46]⟩ by decide +kernel)
    go_enter Tryz.func91, Tryz.ntmps91
    go_wp2
    go_ret
    exact ⟨by rw [E.out]; rfl, (Below.refl _ _).alloc (Nat.le_refl _) _⟩
  · have E := Lib.hid (show covRow 6 = ⟨#[43, 43, 43, 43, 43, 43, 43]⟩ by decide +kernel)
    go_enter Tryz.func91, Tryz.ntmps91
    go_wp2
    go_ret
    exact ⟨by rw [E.out]; rfl, (Below.refl _ _).alloc (Nat.le_refl _) _⟩
theorem signs_at (f : Nat → Bool) (b : Nat) (hb : b < 7) (h : b < (signs f).size) : (((signs f)[b].toNat : Int) == 43) = f b := by
  have : b = 0 ∨ b = 1 ∨ b = 2 ∨ b = 3 ∨ b = 4 ∨ b = 5 ∨ b = 6 := by omega
  rcases this with rfl | rfl | rfl | rfl | rfl | rfl | rfl
  · show (((pl (f 0)).toNat : Int) == 43) = f 0
    cases f 0 <;> rfl
  · show (((pl (f 1)).toNat : Int) == 43) = f 1
    cases f 1 <;> rfl
  · show (((pl (f 2)).toNat : Int) == 43) = f 2
    cases f 2 <;> rfl
  · show (((pl (f 3)).toNat : Int) == 43) = f 3
    cases f 3 <;> rfl
  · show (((pl (f 4)).toNat : Int) == 43) = f 4
    cases f 4 <;> rfl
  · show (((pl (f 5)).toNat : Int) == 43) = f 5
    cases f 5 <;> rfl
  · show (((pl (f 6)).toNat : Int) == 43) = f 6
    cases f 6 <;> rfl
theorem compatR_any (a b : Int) (w : World) : Calls Tryz.prog 48 #[.int .i64 a, .int .i64 b] w fun e w' => e = .returned (.bool (comB a b)) ∧ Below w.heap.size w w' := by
  have Ka := Lib.hid (fun W => knownR_any a W)
  have Kb := Lib.hid (fun W => knownR_any b W)
  cases ha : knownB a with
  | false =>
    rw [show comB a b = false by simp [comB, tabB, ha]]
    rw [ha] at Ka
    go_enter Tryz.func48, Tryz.ntmps48
    go_wp2_with fail
    refine (Ka.out _).mono ?_
    rintro e w' ⟨rfl, rfl⟩
    go_wp2_with fail
    go_ret
    exact ⟨rfl, Below.refl _ _⟩
  | true =>
    rw [ha] at Ka
    cases hb : knownB b with
    | false =>
      rw [show comB a b = false by simp [comB, tabB, hb]]
      rw [hb] at Kb
      go_enter Tryz.func48, Tryz.ntmps48
      go_wp2_with fail
      refine (Ka.out _).mono ?_
      rintro e w' ⟨rfl, rfl⟩
      go_wp2_with fail
      refine (Kb.out _).mono ?_
      rintro e w' ⟨rfl, rfl⟩
      go_wp2_with fail
      go_ret
      exact ⟨rfl, Below.refl _ _⟩
    | true =>
      rw [hb] at Kb
      obtain ⟨i, rfl, hi⟩ := known_nat ha
      obtain ⟨j, rfl, hj⟩ := known_nat hb
      have R := Lib.hid (fun W => row_any i hi W)
      have hz : (comRow i).size = 7 := rfl
      have hA := Lib.hid (fun h => signs_at (fun b => comB i b) j hj h)
      have i1 : (0 : Int) ≤ (j : Int) := by omega
      have i2 : (j : Int) < 7 := by omega
      go_enter Tryz.func48, Tryz.ntmps48
      go_wp2_with fail
      refine (Ka.out _).mono ?_
      rintro e w' ⟨rfl, rfl⟩
      go_wp2_with fail
      refine (Kb.out _).mono ?_
      rintro e w' ⟨rfl, rfl⟩
      go_wp2_with fail
      refine (R.out _).mono ?_
      rintro e w1 ⟨rfl, b1⟩
      go_wp2_with fail
      go_ret
      refine ⟨?_, b1⟩
      rw [← hA.out (by show j < 7; exact hj)]
      rfl
theorem coversR_any (a b : Int) (w : World) : Calls Tryz.prog 76 #[.int .i64 a, .int .i64 b] w fun e w' => e = .returned (.bool (covB a b)) ∧ Below w.heap.size w w' := by
  have Ka := Lib.hid (fun W => knownR_any a W)
  have Kb := Lib.hid (fun W => knownR_any b W)
  cases ha : knownB a with
  | false =>
    rw [show covB a b = false by simp [covB, tabB, ha]]
    rw [ha] at Ka
    go_enter Tryz.func76, Tryz.ntmps76
    go_wp2_with fail
    refine (Ka.out _).mono ?_
    rintro e w' ⟨rfl, rfl⟩
    go_wp2_with fail
    go_ret
    exact ⟨rfl, Below.refl _ _⟩
  | true =>
    rw [ha] at Ka
    cases hb : knownB b with
    | false =>
      rw [show covB a b = false by simp [covB, tabB, hb]]
      rw [hb] at Kb
      go_enter Tryz.func76, Tryz.ntmps76
      go_wp2_with fail
      refine (Ka.out _).mono ?_
      rintro e w' ⟨rfl, rfl⟩
      go_wp2_with fail
      refine (Kb.out _).mono ?_
      rintro e w' ⟨rfl, rfl⟩
      go_wp2_with fail
      go_ret
      exact ⟨rfl, Below.refl _ _⟩
    | true =>
      rw [hb] at Kb
      obtain ⟨i, rfl, hi⟩ := known_nat ha
      obtain ⟨j, rfl, hj⟩ := known_nat hb
      have R := Lib.hid (fun W => under_any i hi W)
      have hz : (covRow i).size = 7 := rfl
      have hA := Lib.hid (fun h => signs_at (fun b => covB i b) j hj h)
      have i1 : (0 : Int) ≤ (j : Int) := by omega
      have i2 : (j : Int) < 7 := by omega
      go_enter Tryz.func76, Tryz.ntmps76
      go_wp2_with fail
      refine (Ka.out _).mono ?_
      rintro e w' ⟨rfl, rfl⟩
      go_wp2_with fail
      refine (Kb.out _).mono ?_
      rintro e w' ⟨rfl, rfl⟩
      go_wp2_with fail
      refine (R.out _).mono ?_
      rintro e w1 ⟨rfl, b1⟩
      go_wp2_with fail
      go_ret
      refine ⟨?_, b1⟩
      rw [← hA.out (by show j < 7; exact hj)]
      rfl
end Go.Proofs.YtcnkmhfcgkbhbaaGreat
namespace Go.Proofs.YtcnkmhfcgkbhbaaGreat
open Go.RowKit
theorem holdsR_any (r : Rq) (w : World) : Calls Tryz.prog 47 #[r.val] w fun e w' => e = .returned (.bool (r.mode != 0)) ∧ Below w.heap.size w w' := by
  obtain ⟨id, txn, mode, want, since⟩ := r
  unfold Rq.val
  go_enter Tryz.func47, Tryz.ntmps47
  go_wp2
  go_ret
  exact ⟨rfl, (Below.refl _ _).alloc (Nat.le_refl _) _⟩
theorem waitsR_any (r : Rq) (w : World) : Calls Tryz.prog 46 #[r.val] w fun e w' => e = .returned (.bool (decide (0 < r.since))) ∧ Below w.heap.size w w' := by
  obtain ⟨id, txn, mode, want, since⟩ := r
  unfold Rq.val
  go_enter Tryz.func46, Tryz.ntmps46
  go_wp2
  go_ret
  exact ⟨rfl, (Below.refl _ _).alloc (Nat.le_refl _) _⟩
set_option maxHeartbeats 1000000 in
theorem at_any (t r n : Int) (v : Value) (l : List Rq) (id0 : Int) (w : World) (hv : RQ w v l) (hl : l.length ≤ 1000) :
    Calls Tryz.prog 54 #[hval t r v n, .int .i64 id0] w fun e w' => e = .returned (.int .i64 (idxF (fun q => q.id == id0) l 0)) ∧ Below w.heap.size w w' := by
  have h0 : ∀ b0, Sep (w.alloc (.cells b0 61)) [blk w.heap.size 61 b0, old w] := fun b0 => (Sep.start w).alloc b0 61
  replace h0 := Lib.hid h0
  obtain ⟨a, c, rfl, hlc, _, hr⟩ := hv
  replace hr := Lib.hid hr
  unfold hval
  go_enter Tryz.func54, Tryz.ntmps54
  go_wp2_with fail
  have hS := Lib.hid (h0.out #[.int .i64 t, .int .i64 r, .slice a l.length c, .int .i64 n])
  clear h0
  generalize hn : l.length = m at *
  replace hn := Lib.hid hn
  generalize hp : (fun q : Rq => q.id == id0) = p at *
  replace hp := Lib.hid hp
  go_loopg [5] m (fun g i wr => ∃ k : Nat, k ≤ m ∧ g = m - k ∧ i = .int .i64 k ∧ Hid (idxF p l 0 = idxF p (l.drop k) k) ∧ Hid (Sep wr [blk w.heap.size 61 #[.int .i64 t, .int .i64 r, .slice a m c, .int .i64 n], old w]))
  case atStart => exact ⟨0, Nat.zero_le _, rfl, rfl, rfl, hS⟩
  case round =>
    clear hS
    obtain ⟨k, hk, hg, rfl, he, hS⟩ := hrel
    obtain ⟨x1, d0, d1, x2, d3, _⟩ := hS.out.b4
    by_cases hlt : k < m
    · obtain ⟨b, off, rfl, hbl, hz⟩ := hr.out (by have := hn.out; omega)
      have z0 := (hz k (by have := hn.out; omega)).1
      rw [← hS.out.to1.gold.cell (by exact hbl)] at z0
      have E := Lib.hid (drop_at l k (by rw [hn.out]; exact hlt))
      have hpq := Lib.hid (show p (l.getD k default) = ((l.getD k default).id == id0) by rw [← hp.out])
      clear hz hr
      generalize l.getD k default = q at *
      cases hc : q.id == id0 with
      | true =>
        have E2 := Lib.hid (show idxF p l 0 = (k : Int) by rw [he.out, E.out]; simp only [idxF, hpq.out, hc, if_true])
        go_wp2_with fail
        go_ret
        exact ⟨by have h := E2.out; rw [← hp.out] at h; rw [h]; rfl, hS.out.to1.gold⟩
      | false =>
        have E2 := Lib.hid (show idxF p l 0 = idxF p (l.drop (k + 1)) (k + 1) by rw [he.out, E.out]; simp only [idxF, hpq.out, hc]; rfl)
        go_wp2_with fail
        go_roundg (m - (k + 1))
        case measure => omega
        case rel => exact ⟨k + 1, by omega, rfl, by go_num, E2, hS⟩
    · have hk2 : k = m := by omega
      have E := Lib.hid (show idxF p l 0 = -1 by rw [he.out, List.drop_eq_nil_of_le (by rw [hn.out]; omega)]; rfl)
      clear he
      go_wp2_with fail
      go_ret
      exact ⟨by have h := E.out; rw [← hp.out] at h; rw [h]; rfl, hS.out.to1.gold⟩
end Go.Proofs.YtcnkmhfcgkbhbaaGreat
namespace Go.Proofs.YtcnkmhfcgkbhbaaGreat
open Go.RowKit
/-- No two requests have one number. -/
def IdsD (l : List Rq) : Prop := ∀ i j, i < l.length → j < l.length → (l.getD i default).id = (l.getD j default).id → i = j
theorem take_snocQ (l : List Rq) (k : Nat) (h : k < l.length) : l.take (k + 1) = l.take k ++ [l.getD k default] := by
  rw [List.take_succ_eq_append_getElem h]; simp [List.getD, h]
end Go.Proofs.YtcnkmhfcgkbhbaaGreat
namespace Go.Proofs.YtcnkmhfcgkbhbaaGreat
open Go.RowKit
theorem qcells_drop (l : List Rq) : ∀ k, qcells (l.drop k) = (qcells l).drop (k * 5) := by
  induction l with
  | nil => intro k; simp [qcells]
  | cons r l ih =>
    intro k
    cases k with
    | zero => simp
    | succ k =>
      simp only [List.drop_succ_cons]
      rw [ih k]
      simp only [qcells, List.flatMap_cons]
      rw [show (k + 1) * 5 = r.cells.length + k * 5 by simp [Rq.cells]; omega, List.drop_append]
      simp
theorem RQ.src_drop {w : World} {b off m c c' k : Nat} {l : List Rq} (h : RQ w (.slice (some ⟨b, off, none⟩) m c) l) (hk : k ≤ m) (hl : l.length = m) : SrcA w 5 (.slice (some ⟨b, off + k * 5, none⟩) (m - k) c') (m - k) (qcells (l.drop k)) := by
  rcases h.src with ⟨h, _⟩ | ⟨ad, c2, he, hlen, hc⟩
  · cases h
  · injection he with e1 e2 e3
    injection e1 with e1
    subst e1
    refine .inr ⟨_, _, rfl, by rw [qcells_len, List.length_drop, hl], fun j u hu => ?_⟩
    rw [qcells_drop, List.getElem?_drop] at hu
    have := hc _ u hu
    rw [Addr.add_lit] at this ⊢
    rw [show off + k * 5 + j = off + (k * 5 + j) by omega]
    exact this
end Go.Proofs.YtcnkmhfcgkbhbaaGreat
namespace Go.Proofs.YtcnkmhfcgkbhbaaGreat
open Go.RowKit
theorem boxes2 (w : World) (t0 t1 : TypeId) (b1 b2 : Array Value) : Sep ((w.alloc (.cells b1 t0)).alloc (.cells b2 t1)) [blk (w.heap.size + 1) t1 b2, blk w.heap.size t0 b1, old w] := by
  have := ((Sep.start w).alloc b1 t0).alloc b2 t1
  rw [World.size_alloc] at this
  exact this
end Go.Proofs.YtcnkmhfcgkbhbaaGreat
