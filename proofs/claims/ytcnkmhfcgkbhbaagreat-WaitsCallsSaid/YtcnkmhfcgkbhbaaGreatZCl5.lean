/-
  Contracts and plain laws that the walk leans on, part 5. No condition.
-/
import Derived.Test.YtcnkmhfcgkbhbaaGreatZCl4
import Derived.Deep.RegionHeld
namespace Go.Proofs.YtcnkmhfcgkbhbaaGreat
open Go.RowKit
theorem checkB_ok (n : Int) (l : List Rq) (h : checkB n l = true) (i : Nat) (hi : i < l.length) : okQB n l i = true := by
  unfold checkB at h
  simp only [Bool.and_eq_true, decide_eq_true_eq] at h
  exact List.all_eq_true.1 h.2.2 i (List.mem_range.2 hi)
theorem okB_pair (n : Int) (l : List Rq) (i : Nat) (h : okQB n l i = true) (k : Nat) (hk : k < l.length) (hki : k < i) : pairB (l.getD k default) (l.getD i default) = false := by
  unfold okQB at h
  simp only [Bool.and_eq_true, Bool.not_eq_true'] at h
  cases hp : pairB (l.getD k default) (l.getD i default) with
  | false => rfl
  | true =>
    have := any_take_true (fun a => pairB a (l.getD i default)) l k i hk hki hp
    rw [this] at h
    exact absurd h.2 (by simp)
theorem pairB_id (a b : Rq) (h : pairB a b = false) : a.id ≠ b.id ∧ a.txn ≠ b.txn := by
  unfold pairB at h
  simp only [Bool.or_eq_false_iff, beq_eq_false_iff_ne] at h
  exact ⟨h.1.1.1.1, h.1.1.1.2⟩
theorem checkB_ids (n : Int) (l : List Rq) (h : checkB n l = true) : IdsD l := by
  intro i j hi hj he
  rcases Nat.lt_trichotomy i j with hlt | heq | hgt
  · exact absurd he (pairB_id _ _ (okB_pair n l j (checkB_ok n l h j hj) i hi hlt)).1
  · exact heq
  · exact absurd he.symm (pairB_id _ _ (okB_pair n l i (checkB_ok n l h i hi) j hj hgt)).1
end Go.Proofs.YtcnkmhfcgkbhbaaGreat
namespace Go.Proofs.YtcnkmhfcgkbhbaaGreat
open Go.RowKit
theorem SrcA.cells (w : World) (cs : Array Value) (t : TypeId) (c : Nat) : SrcA (w.alloc (.cells cs t)) cs.size (.slice (some ⟨w.heap.size, 0, none⟩) 1 c) 1 cs.toList := by
  refine .inr ⟨_, _, rfl, by simp, fun j u hu => ?_⟩
  have h := ((Sep.start w).alloc cs t).gblk.cell j
  rw [Addr.add_lit, Nat.zero_add]
  rw [h, ← hu]
  simp
end Go.Proofs.YtcnkmhfcgkbhbaaGreat
namespace Go.Proofs.YtcnkmhfcgkbhbaaGreat
open Go.RowKit
end Go.Proofs.YtcnkmhfcgkbhbaaGreat
namespace Go.Proofs.YtcnkmhfcgkbhbaaGreat
open Go.RowKit
/-- A request by itself, and two, the first ahead of the second. -/
def PR (r : Rq) (n : Int) : Prop := 0 ≤ r.id ∧ knownB r.mode = true ∧ knownB r.want = true ∧ 0 ≤ r.since ∧ r.since ≤ n ∧ (0 < r.since → covB r.mode r.want = false) ∧ (¬ 0 < r.since → r.mode ≠ 0 ∧ r.want = r.mode)
theorem PR.mono {r : Rq} {n n' : Int} (h : PR r n) (hn : n ≤ n') : PR r n' := ⟨h.1, h.2.1, h.2.2.1, h.2.2.2.1, Int.le_trans h.2.2.2.2.1 hn, h.2.2.2.2.2⟩
/-- The place of a request. -/
def plc (l : List Rq) (id : Int) : Int := idxF (fun q => q.id == id) l 0
theorem plc_spec (l : List Rq) (id : Int) (h : ¬ plc l id < 0) : ∃ i : Nat, plc l id = i ∧ i < l.length ∧ (l.getD i default).id = id := by
  rcases idxF_bd (fun q : Rq => q.id == id) l 0 with h' | ⟨j, h1, h2, h3⟩
  · unfold plc at h; omega
  · exact ⟨j, by unfold plc; rw [h1]; simp, h2, by simpa using h3⟩
end Go.Proofs.YtcnkmhfcgkbhbaaGreat
namespace Go.Proofs.YtcnkmhfcgkbhbaaGreat
open Go.RowKit
section
variable {P : Program} {ops : Array Oper} {Q : Exit → Act → World → Prop} {md : Region.Mode} {S : World → Prop}
theorem put_back {v : Value} {d : Option Tmp} (hQ : ∀ c t t' d w, Q (.panic c) ⟨t, d⟩ w → Q (.panic c) ⟨t', d⟩ w) : ∀ c a w, Q (.panic c) (a.put d v) w → Q (.panic c) a w := fun c a w h => by
  obtain ⟨t, e⟩ := a
  cases d with
  | none => exact h
  | some k => exact hQ c _ t e w h
theorem held_begin {id : Nat} {a : Act} {w : World} (S : World → Prop) (hm : P.follows .mixedOrders = true) (hS : S w.drew)
    (h : wpAnyH P .any ops Q S ops.size (Array.replicate ops.size false) a w.drew) : (Code.region id ops true).wp P Q a w := wp_region_held_drew hm hS (fun _ => h)
theorem held_take (i : Nat) (v : Value) {oi : Oper} {fuel : Nat} {listed : Array Bool} {a : Act} {w : World} (hi : ops[i]? = some oi)
    (hs : Region.noSelect ops = true) (hf : Region.free md ops listed i = true) (hr : (Region.ready md ops listed).contains i = true)
    (hQ : ∀ c t t' d w, Q (.panic c) ⟨t, d⟩ w → Q (.panic c) ⟨t', d⟩ w) (hw : Region.wanted oi (yielded ops a.tmps) = true) (hS : S w)
    (hy : ∀ w, S w → (execOp a.eval oi).run P w = .ok (.value v) w)
    (h : wpAnyH P md ops Q S fuel (listed.setIfInBounds i true) (a.put oi.dst v) w) : wpAnyH P md ops Q S (fuel + 1) listed a w :=
  wpAnyH_take hi hs hf hr (put_back hQ) (.inl ⟨hw, hy⟩) hS h
theorem held_skip (i : Nat) {oi : Oper} {fuel : Nat} {listed : Array Bool} {a : Act} {w : World} (hi : ops[i]? = some oi)
    (hs : Region.noSelect ops = true) (hf : Region.free md ops listed i = true) (hr : (Region.ready md ops listed).contains i = true)
    (hQ : ∀ c t t' d w, Q (.panic c) ⟨t, d⟩ w → Q (.panic c) ⟨t', d⟩ w) (hw : Region.wanted oi (yielded ops a.tmps) = false) (hS : S w)
    (h : wpAnyH P md ops Q S fuel (listed.setIfInBounds i true) (a.put oi.dst undef) w) : wpAnyH P md ops Q S (fuel + 1) listed a w :=
  wpAnyH_take hi hs hf hr (put_back hQ) (.inr ⟨hw, rfl⟩) hS h
theorem held_one (i : Nat) {oi : Oper} {fuel : Nat} {listed : Array Bool} {a : Act} {w : World} (hr : Region.ready md ops listed = [i]) (hi : ops[i]? = some oi)
    (hw : Region.wanted oi (yielded ops a.tmps) = true)
    (h : ∀ K : Act → World → Prop, Hid (∀ a w, S w → wpAnyH P md ops Q S fuel (listed.setIfInBounds i true) a w → K a w) → oi.wp P a w K Q) : wpAnyH P md ops Q S (fuel + 1) listed a w :=
  wpAnyH_ready hr (by simp) (AllReadyH.cons hi (fun K hK => by
    rw [if_pos hw]
    exact h K (fun a w hS hW => hK a w hS (fun _ => hW))) AllReadyH.nil)
end
/-- Behind a piece of code: what is handed on, and no panic. -/
def CutQ (R : Act → World → Prop) : Exit → Act → World → Prop
  | .normal, a, w => R a w
  | _, _, _ => False
theorem CutQ.mk {R : Act → World → Prop} {a : Act} {w : World} (h : R a w) : CutQ R .normal a w := h
end Go.Proofs.YtcnkmhfcgkbhbaaGreat
namespace Go.Proofs.YtcnkmhfcgkbhbaaGreat
open Go.RowKit
section
variable {P : Program} {ops : Array Oper} {Q : Exit → Act → World → Prop} {md : Region.Mode} {S : World → Prop}
/-- The plan, operation by operation: (i, true): taken first, or passed over; (i, false): alone ready. -/
def HL (P : Program) (ops : Array Oper) (Q : Exit → Act → World → Prop) (S : World → Prop) : List (Nat × Bool) → Act → World → Prop
  | [], a, w => Q .normal a w
  | (i, true) :: r, a, w => ∃ o, ops[i]? = some o ∧
      ((Region.wanted o (yielded ops a.tmps) = true ∧ ∃ v, (∀ W, S W → (execOp a.eval o).run P W = .ok (.value v) W) ∧ HL P ops Q S r (a.put o.dst v) w) ∨
       (Region.wanted o (yielded ops a.tmps) = false ∧ HL P ops Q S r (a.put o.dst undef) w))
  | (i, false) :: r, a, w => ∃ o, ops[i]? = some o ∧
      ((Region.wanted o (yielded ops a.tmps) = true ∧ ∀ K : Act → World → Prop, Hid (∀ a w, S w → HL P ops Q S r a w → K a w) → o.wp P a w K Q) ∨
       (Region.wanted o (yielded ops a.tmps) = false ∧ HL P ops Q S r (a.put o.dst undef) w))
def planOK (md : Region.Mode) (ops : Array Oper) : List (Nat × Bool) → Array Bool → Bool
  | [], l => (Region.ready md ops l).isEmpty
  | (i, true) :: r, l => Region.free md ops l i && (Region.ready md ops l).contains i && planOK md ops r (l.setIfInBounds i true)
  | (i, false) :: r, l => (Region.ready md ops l == [i]) && planOK md ops r (l.setIfInBounds i true)
theorem HL.sound (hs : Region.noSelect ops = true) (hQ : ∀ c t t' d w, Q (.panic c) ⟨t, d⟩ w → Q (.panic c) ⟨t', d⟩ w) : ∀ (p : List (Nat × Bool)) (l : Array Bool) (a : Act) (w : World), planOK md ops p l = true → S w → HL P ops Q S p a w → wpAnyH P md ops Q S p.length l a w
  | [], l, a, w, hp, hS, h => by
    simp only [planOK, List.isEmpty_iff] at hp
    exact wpAnyH_done hp h _
  | (i, true) :: r, l, a, w, hp, hS, h => by
    simp only [planOK, Bool.and_eq_true] at hp
    obtain ⟨o, ho, ⟨hw, v, hy, h⟩ | ⟨hw, h⟩⟩ := h
    · exact held_take i v ho hs hp.1.1 hp.1.2 hQ hw hS hy (HL.sound hs hQ r _ _ _ hp.2 hS h)
    · exact held_skip i ho hs hp.1.1 hp.1.2 hQ hw hS (HL.sound hs hQ r _ _ _ hp.2 hS h)
  | (i, false) :: r, l, a, w, hp, hS, h => by
    simp only [planOK, Bool.and_eq_true, beq_iff_eq] at hp
    obtain ⟨o, ho, ⟨hw, h⟩ | ⟨hw, h⟩⟩ := h
    · exact held_one i hp.1 ho hw (fun K hK => h K (fun a w hS' h' => hK.out a w hS' (HL.sound hs hQ r _ _ _ hp.2 hS' h')))
    · refine wpAnyH_ready hp.1 (by simp) (AllReadyH.cons ho (fun K hK => ?_) AllReadyH.nil)
      rw [if_neg (by rw [hw]; decide)]
      exact hK _ w hS (fun _ => HL.sound hs hQ r _ _ _ hp.2 hS h)
/-- The beginning. -/
theorem hl_begin {id : Nat} {a : Act} {w : World} (S : World → Prop) (p : List (Nat × Bool)) (hm : P.follows .mixedOrders = true) (hs : Region.noSelect ops = true)
    (hp : planOK .any ops p (Array.replicate ops.size false) = true) (hn : p.length = ops.size) (hQ : ∀ c t t' d w, Q (.panic c) ⟨t, d⟩ w → Q (.panic c) ⟨t', d⟩ w) (hS : S w.drew)
    (h : HL P ops Q S p a w.drew) : (Code.region id ops true).wp P Q a w :=
  held_begin S hm hS (by have := HL.sound hs hQ p _ a _ hp hS h; rw [hn] at this; exact this)
theorem hl_take {i : Nat} {r : List (Nat × Bool)} (v : Value) {o : Oper} {a : Act} {w : World} (hi : ops[i]? = some o) (hw : Region.wanted o (yielded ops a.tmps) = true)
    (hy : ∀ W, S W → (execOp a.eval o).run P W = .ok (.value v) W) (h : HL P ops Q S r (a.put o.dst v) w) : HL P ops Q S ((i, true) :: r) a w := ⟨o, hi, .inl ⟨hw, v, hy, h⟩⟩
theorem hl_one {i : Nat} {r : List (Nat × Bool)} {o : Oper} {a : Act} {w : World} (hi : ops[i]? = some o) (hw : Region.wanted o (yielded ops a.tmps) = true)
    (h : ∀ K : Act → World → Prop, Hid (∀ a w, S w → HL P ops Q S r a w → K a w) → o.wp P a w K Q) : HL P ops Q S ((i, false) :: r) a w := ⟨o, hi, .inl ⟨hw, h⟩⟩
theorem hl_done {a : Act} {w : World} (h : Q .normal a w) : HL P ops Q S [] a w := h
end
end Go.Proofs.YtcnkmhfcgkbhbaaGreat
namespace Go.Proofs.YtcnkmhfcgkbhbaaGreat
open Go.RowKit
theorem find_none (t r n : Int) (v : Value) (l : List Rq) (id0 : Int) (w : World) (hv : RQ w v l) (hl : l.length ≤ 1000) (hi : plc l id0 = -1) :
    Calls Tryz.prog 49 #[hval t r v n, .int .i64 id0] w fun e w' => e = .returned (.tuple #[(⟨0, 0, 0, 0, 0⟩ : Rq).val, .bool false]) ∧ Below w.heap.size w w' := by
  have hB := Lib.hid (boxes2 w 61 64 #[.int .i64 t, .int .i64 r, v, .int .i64 n] #[.int .i64 0, .int .i64 0, .int .i64 0, .int .i64 0, .int .i64 0])
  have HP := Lib.hid (fun W hb => place_any t r n v l id0 W (hv.below hb) hl)
  rw [show idxF (fun q : Rq => q.id == id0) l 0 = _ from hi] at HP
  obtain ⟨a, c, rfl, _⟩ := hv
  unfold hval Rq.val at *
  go_enter Tryz.func49, Tryz.ntmps49
  go_wp2_with fail
  refine (HP.out _ hB.out.tail.tail.gold).mono ?_
  rintro e w1 ⟨rfl, b1⟩
  replace hB := Lib.hid (hB.out.below b1)
  obtain ⟨_, p0, p1, p2, p3, p4, _⟩ := hB.out.b5
  clear b1
  go_wp2_with fail
  refine bodyPost_ret (v := .tuple #[.agg #[.int .i64 0, .int .i64 0, .int .i64 0, .int .i64 0, .int .i64 0], .bool false]) (by simp [results, Tryz.results49, go_sem, *]) rfl ⟨rfl, ?_⟩
  first | exact hB.out.tail.tail.gold | exact (((((hB.out.set 0 (.int .i64 0)).set 1 (.int .i64 0)).set 2 (.int .i64 0)).set 3 (.int .i64 0)).set 4 (.int .i64 0)).tail.tail.gold
theorem find_some (t r n : Int) (v : Value) (l : List Rq) (id0 : Int) (w : World) (hv : RQ w v l) (hl : l.length ≤ 1000) (i : Nat) (hi : plc l id0 = i) (hil : i < l.length) :
    Calls Tryz.prog 49 #[hval t r v n, .int .i64 id0] w fun e w' => e = .returned (.tuple #[(l.getD i default).val, .bool true]) ∧ Below w.heap.size w w' := by
  have hB := Lib.hid (boxes2 w 61 64 #[.int .i64 t, .int .i64 r, v, .int .i64 n] #[.int .i64 0, .int .i64 0, .int .i64 0, .int .i64 0, .int .i64 0])
  have HP := Lib.hid (fun W hb => place_any t r n v l id0 W (hv.below hb) hl)
  rw [show idxF (fun q : Rq => q.id == id0) l 0 = _ from hi] at HP
  have i1 : (0 : Int) ≤ (i : Int) := by omega
  have i2 : (i : Int) < (l.length : Int) := by omega
  have d : decide ((i : Int) < 0) = false := by rw [decide_eq_false_iff_not]; omega
  obtain ⟨a, c, rfl, _, _, hr⟩ := hv
  obtain ⟨b, off, rfl, hbl, hz⟩ := hr (by omega)
  have hzi := hz i hil
  clear hz hr hil hi
  generalize l.getD i default = q at *
  obtain ⟨id, txn, mode, want, since⟩ := q
  unfold hval Rq.val at *
  simp only at hzi ⊢
  go_enter Tryz.func49, Tryz.ntmps49
  go_wp2_with fail
  refine (HP.out _ hB.out.tail.tail.gold).mono ?_
  rintro e w1 ⟨rfl, b1⟩
  replace hB := Lib.hid (hB.out.below b1)
  obtain ⟨_, p0, p1, p2, p3, p4, f0, f1, f2, f3, f4⟩ := hB.out.b5
  obtain ⟨_, k0, k1, k2, k3, _⟩ := hB.out.to1.b4
  obtain ⟨z0, z1, z2, z3, z4⟩ := hzi
  rw [← hB.out.tail.tail.gold.cell (by exact hbl)] at z0 z1 z2 z3 z4
  clear b1 HP
  go_wp2_with fail
  refine bodyPost_ret (v := .tuple #[.agg #[.int .i64 id, .int .i64 txn, .int .i64 mode, .int .i64 want, .int .i64 since], .bool true]) (by simp [results, Tryz.results49, go_sem, *]) rfl ⟨rfl, ?_⟩
  exact (((((hB.out.set 0 (.int .i64 id)).set 1 (.int .i64 txn)).set 2 (.int .i64 mode)).set 3 (.int .i64 want)).set 4 (.int .i64 since)).tail.tail.gold
end Go.Proofs.YtcnkmhfcgkbhbaaGreat
namespace Go.Proofs.YtcnkmhfcgkbhbaaGreat
open Go.RowKit
theorem plc_neg {l : List Rq} {id : Int} (h : plc l id < 0) : plc l id = -1 := by
  rcases idxF_bd (fun q : Rq => q.id == id) l 0 with h' | ⟨j, h1, _, _⟩
  · exact h'
  · unfold plc at h; omega
end Go.Proofs.YtcnkmhfcgkbhbaaGreat
