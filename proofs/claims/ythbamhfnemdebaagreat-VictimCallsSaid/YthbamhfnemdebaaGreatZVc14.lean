/-
  Contracts and plain laws that the walk leans on, part 14. No condition.
-/
import Derived.Test.YthbamhfnemdebaaGreatZVc13
namespace Go.Proofs.YthbamhfnemdebaaGreat
open Go.RowKit Go.ChangeShapes Go.WideShapes Go.Joins Go.Deep
/-- A head: its name, how many began to wait, its queue as a value, and as a list. -/
structure Hv where
  t : Int
  r : Int
  n : Int
  v : Value
  l : List Rq
instance : Inhabited Hv := ⟨⟨0, 0, 0, .slice none 0 0, []⟩⟩
def Hv.cells (x : Hv) : List Value := [.int .i64 x.t, .int .i64 x.r, x.v, .int .i64 x.n]
/-- The value u is a slice of heads that reads as hs. -/
def HD (w : World) (u : Value) (hs : List Hv) : Prop :=
  ∃ a c, u = .slice a hs.length c ∧ (0 < hs.length → ∃ b off, a = some ⟨b, off, none⟩ ∧ b < w.heap.size ∧ ∀ i, i < hs.length →
    w.cell? ⟨b, off + i * 4, none⟩ = some (.int .i64 (hs.getD i default).t) ∧ w.cell? ⟨b, off + i * 4 + 1, none⟩ = some (.int .i64 (hs.getD i default).r) ∧
    w.cell? ⟨b, off + i * 4 + 2, none⟩ = some (hs.getD i default).v ∧ w.cell? ⟨b, off + i * 4 + 3, none⟩ = some (.int .i64 (hs.getD i default).n)) ∧
    ∀ i, i < hs.length → RQ w (hs.getD i default).v (hs.getD i default).l
theorem HD.below {w w' : World} {u : Value} {hs : List Hv} (h : HD w u hs) (hb : Below w.heap.size w w') : HD w' u hs := by
  obtain ⟨a, c, hv, hr, hq⟩ := h
  refine ⟨a, c, hv, fun h0 => ?_, fun i hi => (hq i hi).below hb⟩
  obtain ⟨b, off, ha, hlt, hz⟩ := hr h0
  have k : ∀ o, w'.cell? ⟨b, o, none⟩ = w.cell? ⟨b, o, none⟩ := fun o => hb.cell (p := ⟨b, o, none⟩) hlt
  exact ⟨b, off, ha, Nat.lt_of_lt_of_le hlt hb.size, fun j hj => by rw [k, k, k, k]; exact hz j hj⟩
theorem array4l {α : Type} {cs : List α} (h : cs.length = 4) : ∃ a b c d, cs = [a, b, c, d] := by
  match cs, h with
  | [a, b, c, d], _ => exact ⟨a, b, c, d, rfl⟩
section
variable {H : Type} {enc : TypeId × Value → H} {w : World} {base : Nat} {spare : Nat → Bool} {held : Bool}
set_option maxRecDepth 100000 in
theorem headC_open {n : Nat} {cs : List Value} {x : DataW H × List MemPlace} (hl : cs.length = 4) (hf : DataW.trod enc Tryz.prog w base spare held n 43 cs = some x) : ∃ y : Hv, cs = y.cells ∧ RQ w y.v y.l := by
  obtain ⟨c0, c1, c2, c3, rfl⟩ := array4l hl
  obtain ⟨y0, y1, y2, k, _, _, h0, h1, h2⟩ := trod_struct3 Tryz.underlying43 hf
  simp only [hd_cells2, hd_cellsS, hd_cells1, List.drop_zero, List.drop_succ_cons, List.take_succ_cons, List.take_zero, List.take_nil] at h0 h1 h2
  obtain ⟨q0, q1, k0, _, _, g0, g1⟩ := trod_struct2 Tryz.underlying40 h0
  simp only [hd_cells1, List.drop_zero, List.drop_succ_cons, List.take_succ_cons, List.take_zero, List.take_nil] at g0 g1
  obtain ⟨t, e0, _, _⟩ := DataW.trod_int Tryz.underlying3 g0
  obtain ⟨r, e1, _, _⟩ := DataW.trod_int Tryz.underlying3 g1
  obtain ⟨n, e2, _, _⟩ := DataW.trod_int Tryz.underlying3 h2
  simp at e0 e1 e2
  subst e0 e1 e2
  obtain ⟨a, m, c, rfl⟩ : ∃ a m c, c2 = .slice a m c := by
    rcases open_slice_fields Tryz.underlying41 Tryz.underlying58 (by kernel_rfl) hd_cells5 h1 with ⟨hcs, _⟩ | ⟨x, l, c, m, D, Pl, hcs, _⟩
    · exact ⟨none, 0, 0, by simpa using hcs⟩
    · exact ⟨some x, l, c, by simpa using hcs⟩
  have hT : DataW.Trod enc Tryz.prog w base spare held 41 (.slice a m c) y1.1 y1.2 := ⟨k, by simpa [Value.cells] using h1⟩
  obtain ⟨z, hz⟩ := rows_open Tryz.underlying41 Tryz.underlying58 (by kernel_rfl) hd_cells5 (fun j f hj => by match j, hj with | 0, rfl => exact Tryz.underlying3 | 1, rfl => exact Tryz.underlying3 | 2, rfl => exact Tryz.underlying56 | 3, rfl => exact Tryz.underlying56 | 4, rfl => exact Tryz.underlying3) (by decide) hT
  exact ⟨⟨t, r, n, .slice a m c, rqL z m⟩, rfl, rq_rows hz (rows_nil Tryz.underlying41 Tryz.underlying58 (by kernel_rfl) hd_cells5 hT)⟩
/-- A slice of heads that came in. -/
theorem heads_open {a : Option Addr} {len cap : Nat} {d : DataW H} {p : List MemPlace} (h : DataW.Trod enc Tryz.prog w base spare held 25 (.slice a len cap) d p) : ∃ hs : List Hv, hs.length = len ∧ HD w (.slice a len cap) hs := by
  obtain ⟨fuel, hf⟩ := h
  rcases open_slice Tryz.underlying25 hf with ⟨hcs, _⟩ | ⟨x, l, c, m', n, D, Pl, hcs, hb, hl, hm, hmm, hx, hi⟩
  · simp [Value.cells] at hcs
    obtain ⟨rfl, rfl, rfl⟩ := hcs
    exact ⟨[], rfl, none, 0, rfl, fun h => absurd h (by simp), fun i h => absurd h (by simp)⟩
  · simp [Value.cells] at hcs
    obtain ⟨rfl, rfl, rfl⟩ := hcs
    have hlm : len ≤ m' := by rw [hmm]; split <;> omega
    have key : ∀ i, i < len → ∃ y : Hv, RQ w y.v y.l ∧ ∀ j u, y.cells[j]? = some u → w.cell? (x.add (i * 4 + j)) = some u := by
      intro i hi'
      obtain ⟨cs', hc, ht'⟩ := hi i (by omega)
      rw [hd_cells] at hc
      obtain ⟨_, hcl, hat⟩ := World.cells?_some hc
      obtain ⟨y, rfl, hy⟩ := headC_open hcl ht'
      refine ⟨y, hy, fun j u hu => ?_⟩
      have hj : j < 4 := (List.getElem?_eq_some_iff.1 hu).1
      have hcell := hat j hj
      rw [← Go.Deep.add_add, hcell, hu]
    have hpick : ∀ k, k ≤ len → ∃ l : List Hv, l.length = k ∧ ∀ i, i < k → RQ w (l.getD i default).v (l.getD i default).l ∧ ∀ j u, (l.getD i default).cells[j]? = some u → w.cell? (x.add (i * 4 + j)) = some u := by
      intro k
      induction k with
      | zero => exact fun _ => ⟨[], rfl, fun i hi => absurd hi (by omega)⟩
      | succ k ih =>
        intro hk'
        obtain ⟨l, hll, hlp⟩ := ih (by omega)
        obtain ⟨y, hy1, hy2⟩ := key k (by omega)
        refine ⟨l ++ [y], by simp [hll], fun i hi => ?_⟩
        rcases Nat.lt_or_ge i l.length with h1 | h1
        · have e : (l ++ [y]).getD i default = l.getD i default := by simp [List.getD, List.getElem?_append_left h1]
          rw [e]
          exact hlp i (by omega)
        · have h2 : i = l.length := by omega
          subst h2
          have e : (l ++ [y]).getD l.length default = y := by simp [List.getD]
          rw [e]
          rw [hll]
          exact ⟨hy1, hy2⟩
    obtain ⟨hs, hll, hlp⟩ := hpick len (Nat.le_refl _)
    refine ⟨hs, hll, some x, cap, by rw [hll], fun h0 => ?_, fun i hi => (hlp i (by omega)).1⟩
    obtain ⟨b, off, sp⟩ := x
    have hc := (hlp 0 (by omega)).2 0 _ rfl
    have hsp : sp = none := by simpa [Addr.add] using World.cell?_spot hc
    subst hsp
    refine ⟨b, off, rfl, by simpa [Addr.add] using World.block_lt_of_cell? _ _ hc, fun i hi => ?_⟩
    have hh := (hlp i (by omega)).2
    have g := fun j u hu => (Addr.add_lit b off (i * 4 + j) ▸ hh j u hu : w.cell? ⟨b, off + (i * 4 + j), none⟩ = some u)
    have g0 := g 0 _ rfl
    have g1 := g 1 _ rfl
    have g2 := g 2 _ rfl
    have g3 := g 3 _ rfl
    rw [Nat.add_zero] at g0
    rw [← Nat.add_assoc] at g1 g2 g3
    exact ⟨g0, g1, g2, g3⟩
end
end Go.Proofs.YthbamhfnemdebaaGreat
namespace Go.Proofs.YthbamhfnemdebaaGreat
open Go.RowKit
/-- The edges of one request, of a queue, of heads. -/
def rqE (l : List Rq) (q : Rq) : List Ed := (blkV l q.id).map fun b => ⟨q.txn, b⟩
def quE (l : List Rq) : List Ed := l.flatMap (rqE l)
def hdsE (hs : List Hv) : List Ed := hs.flatMap fun x => quE x.l
theorem nrm_len (xs : List Int) : (nrm xs).length ≤ xs.length := by
  have h := (List.mergeSort_perm xs fun a b => decide (a ≤ b)).length_eq
  unfold nrm
  rw [← h]
  unfold Lib.compact Lib.compactUpTo
  rw [List.length_map]
  exact Nat.le_trans (List.length_filter_le _ _) (by simp)
theorem blkV_len (l : List Rq) (id : Int) : (blkV l id).length ≤ l.length := by
  unfold blkV
  split
  · simp
  · split
    · exact Nat.le_trans (nrm_len _) (blkL_len _ _)
    · simp
theorem rqE_len (l : List Rq) (q : Rq) : (rqE l q).length ≤ l.length := by
  unfold rqE
  rw [List.length_map]
  exact blkV_len l q.id
theorem flat_le {α β : Type} (f : α → List β) (m : Nat) : ∀ (l : List α), (∀ x ∈ l, (f x).length ≤ m) → (l.flatMap f).length ≤ l.length * m
  | [], _ => by simp
  | x :: l, h => by
    have h1 := h x (by simp)
    have h2 := flat_le f m l fun y hy => h y (by simp [hy])
    rw [List.flatMap_cons, List.length_append, List.length_cons, Nat.succ_mul]
    omega
theorem quE_len (l : List Rq) (h : l.length ≤ 12) : (quE l).length ≤ 144 := by
  have h1 := flat_le (rqE l) 12 l fun q _ => Nat.le_trans (rqE_len l q) h
  unfold quE
  have : l.length * 12 ≤ 12 * 12 := Nat.mul_le_mul_right _ h
  omega
theorem hdsE_len (hs : List Hv) (h : ∀ x ∈ hs, x.l.length ≤ 12) : (hdsE hs).length ≤ hs.length * 144 := flat_le _ 144 hs fun x hx => quE_len x.l (h x hx)
theorem quE_len1 (l : List Rq) (k : Nat) (h : l.length ≤ 12) : ((l.take k).flatMap (rqE l)).length ≤ 144 := by
  have h1 := flat_le (rqE l) 12 (l.take k) fun q _ => Nat.le_trans (rqE_len l q) h
  have h2 : (l.take k).length ≤ 12 := by rw [List.length_take]; omega
  have : (l.take k).length * 12 ≤ 12 * 12 := Nat.mul_le_mul_right _ h2
  omega
end Go.Proofs.YthbamhfnemdebaaGreat
namespace Go.Proofs.YthbamhfnemdebaaGreat
open Go.RowKit
theorem blockers_any (t r n : Int) (v : Value) (l : List Rq) (id0 : Int) (w : World) (hv : RQ w v l) (hl : l.length ≤ 1000) :
    Calls Tryz.prog 49 #[hval t r v n, .int .i64 id0] w fun e w' => ∃ a c, e = .returned (.slice a (blkV l id0).length c) ∧ Sep w' [vec 3 1 (.slice a (blkV l id0).length c) (blkV l id0).length ((blkV l id0).map (Value.int .i64)), old w] := by
  have nil : ∀ w', Below w.heap.size w w' → Sep w' [vec 3 1 (.slice none 0 0) 0 [], old w] := fun w' hb => ((Sep.start w).below hb).vec_nil _ _
  by_cases hn : plc l id0 < 0
  · have e0 : blkV l id0 = [] := by unfold blkV; rw [if_pos hn]
    rw [e0]
    refine (blockers_none t r n v l id0 w hv hl (plc_neg hn)).mono ?_
    rintro e w' ⟨rfl, hb⟩
    exact ⟨none, 0, rfl, nil w' hb⟩
  · obtain ⟨i, hi, hil, _⟩ := plc_spec l id0 hn
    by_cases hs : 0 < (l.getD i default).since
    · have e0 : blkV l id0 = nrm (blkL l (l.getD i default)) := by unfold blkV; rw [if_neg hn, hi, Int.toNat_natCast, if_pos hs]
      rw [e0]
      exact blockers_some t r n v l id0 w hv hl i hi hil (decide_eq_true hs)
    · have e0 : blkV l id0 = [] := by unfold blkV; rw [if_neg hn, hi, Int.toNat_natCast, if_neg hs]
      rw [e0]
      refine (blockers_calm t r n v l id0 w hv hl i hi hil (decide_eq_false hs)).mono ?_
      rintro e w' ⟨rfl, hb⟩
      exact ⟨none, 0, rfl, nil w' hb⟩
theorem take_snocG {α : Type} [Inhabited α] (l : List α) (k : Nat) (h : k < l.length) : l.take (k + 1) = l.take k ++ [l.getD k default] := by
  rw [List.take_succ_eq_append_getElem h]
  simp [List.getD, h]
theorem hdsE_snoc (hs : List Hv) (k : Nat) (h : k < hs.length) : hdsE (hs.take (k + 1)) = hdsE (hs.take k) ++ quE (hs.getD k default).l := by
  unfold hdsE
  rw [take_snocG hs k h, List.flatMap_append]
  simp
theorem quE_snoc (l : List Rq) (k : Nat) (h : k < l.length) : (l.take (k + 1)).flatMap (rqE l) = (l.take k).flatMap (rqE l) ++ rqE l (l.getD k default) := by
  rw [take_snocG l k h, List.flatMap_append]
  simp
def mkE (f : Int) (xs : List Int) : List Ed := xs.map fun b => ⟨f, b⟩
theorem mkE_snoc (f : Int) (xs : List Int) (k : Nat) (h : k < xs.length) : mkE f (xs.take (k + 1)) = mkE f (xs.take k) ++ [⟨f, xs.getD k 0⟩] := by
  unfold mkE
  rw [List.take_succ_eq_append_getElem h, List.map_append]
  simp [List.getD, h]
theorem hdsE_take_len (hs : List Hv) (h12 : ∀ x ∈ hs, x.l.length ≤ 12) (k : Nat) (h : k ≤ 8) : (hdsE (hs.take k)).length ≤ 1152 := by
  have h1 := hdsE_len (hs.take k) fun x hx => h12 x (List.mem_of_mem_take hx)
  have h2 : (hs.take k).length ≤ 8 := by rw [List.length_take]; omega
  have : (hs.take k).length * 144 ≤ 8 * 144 := Nat.mul_le_mul_right _ h2
  omega
set_option maxHeartbeats 8000000 in
set_option maxRecDepth 100000 in
theorem edges_any (u : Value) (hs : List Hv) (w : World) (hv : HD w u hs) (hl : hs.length ≤ 8) (h12 : ∀ x ∈ hs, x.l.length ≤ 12) :
    Calls Tryz.prog 30 #[u] w fun e w' => ∃ a c, e = .returned (.slice a (sdE (hdsE hs)).length c) ∧ Sep w' [vec 36 2 (.slice a (sdE (hdsE hs)).length c) (sdE (hdsE hs)).length ((sdE (hdsE hs)).flatMap Ed.cells), old w] := by
  obtain ⟨ua, uc, rfl, hr, hq⟩ := hv
  obtain ⟨n0, hn0⟩ : ∃ n0, hs.length = n0 := ⟨_, rfl⟩
  rw [hn0] at hr hq hl ⊢
  have HS := Lib.hid (fun v W (h : RL W v 2 (hdsE hs).length ((hdsE hs).flatMap Ed.cells)) => sorted_any v (hdsE hs) W h (by
    have := hdsE_take_len hs h12 n0 hl
    rw [← hn0, List.take_length] at this
    omega))
  replace hr := Lib.hid hr
  replace hq := Lib.hid hq
  have hlen := Lib.hid (fun k h => hdsE_take_len hs h12 k h)
  have hsnoc := Lib.hid (hdsE_snoc hs)
  have hmem := Lib.hid (fun i (hi : i < n0) => h12 (hs.getD i default) (by
    have : i < hs.length := by omega
    have e : hs.getD i default = hs[i] := by simp [List.getD, this]
    rw [e]
    exact List.getElem_mem this))
  replace hn0 := Lib.hid hn0
  obtain ⟨i0, hi0, hz0, hz1, hz2⟩ := info_parts info_ed
  have h1c : Hid (∀ x y, ∀ u ∈ ([.int .i64 x, .int .i64 y] : List Value), u.oneCell' = true) := Lib.hid (by simp [Value.oneCell'])
  have hV0 := Lib.hid ((Sep.start w).vec_nil 36 2)
  clear h12
  go_enter Tryz.func30, Tryz.ntmps30
  go_wp2_with fail
  go_loopg [3, 12] n0 (fun gm s3 s12 W => ∃ (i : Nat) (O : List Ed) (ao : Option Addr) (co n : Nat), i ≤ n0 ∧ gm = n0 - i ∧ s3 = .slice ao n co ∧ s12 = .int .i64 i ∧ Hid (O = hdsE (hs.take i)) ∧ Hid (O.length = n) ∧ Hid (Sep W [vec 36 2 (.slice ao n co) n (O.flatMap Ed.cells), old w]))
  case atStart => exact ⟨0, [], none, 0, 0, Nat.zero_le _, rfl, rfl, rfl, Lib.hid rfl, Lib.hid rfl, hV0⟩
  case round =>
    clear hV0
    obtain ⟨i, O, ao, co, n, hi, hgm, rfl, rfl, hO, hOn, hV⟩ := hrel
    by_cases hlt : i < n0
    · obtain ⟨b, off, rfl, hb, hz⟩ := hr.out (by omega)
      obtain ⟨z0, z1, z2, z3⟩ := hz i hlt
      have kk : ∀ o, wr.cell? ⟨b, o, none⟩ = w.cell? ⟨b, o, none⟩ := fun o => hV.out.tail.gold.cell (p := ⟨b, o, none⟩) hb
      rw [← kk] at z0 z1 z2 z3
      have hRQ := hq.out i hlt
      have hx12 := hmem.out i hlt
      have hsn := hsnoc.out i (by rw [hn0.out]; exact hlt)
      rw [← hO.out] at hsn
      have hOl : O.length ≤ 1152 := by rw [hO.out]; exact hlen.out i (by omega)
      clear kk hz
      generalize hs.getD i default = x at *
      obtain ⟨t, r, nw, v, l⟩ := x
      simp only at z0 z1 z2 z3 hRQ hx12 hsn
      have HB := Lib.hid (fun id W (hb : Below w.heap.size w W) => blockers_any t r nw v l id W (hRQ.below hb) (by omega))
      have hbl := Lib.hid (blkV_len l)
      have hqs := Lib.hid (quE_snoc l)
      have hql := Lib.hid (fun k => quE_len1 l k hx12)
      replace hsn := Lib.hid hsn
      obtain ⟨qa, qc, rfl, hlq, _, hqr⟩ := hRQ
      replace hqr := Lib.hid hqr
      obtain ⟨m, hm⟩ : ∃ m, l.length = m := ⟨_, rfl⟩
      rw [hm] at hqr hlq hx12 z2 hbl
      simp only [hm] at HB
      replace HB := Lib.hid HB.out
      replace hm := Lib.hid hm
      have i1 : (0 : Int) ≤ (i : Int) := by omega
      have i2 : (i : Int) < (n0 : Int) := by omega
      have hV1 := Lib.hid ((hV.out.alloc #[.int .i64 t, .int .i64 r, .slice qa m qc, .int .i64 nw] 43).to1)
      obtain ⟨_, d0, d1, d2, d3, _⟩ := hV1.out.to1.b4
      have hms := Lib.hid (show n0 - (i + 1) < n0 - i by omega)
      unfold hval at HB
      go_wp2_with fail
      generalize hG : wr.heap.size = gh at *
      clear hV d0 d1 d2 d3 z0 z1 z2 z3 hG
      go_loopg [3, 19] m (fun gm s3 s19 W => ∃ (k : Nat) (P : List Ed) (ap : Option Addr) (cp np : Nat), k ≤ m ∧ gm = m - k ∧ s3 = .slice ap np cp ∧ s19 = .int .i64 k ∧ Hid (P = O ++ (l.take k).flatMap (rqE l)) ∧ Hid (P.length = np) ∧ Hid (Sep W [vec 36 2 (.slice ap np cp) np (P.flatMap Ed.cells), blk gh 43 #[.int .i64 t, .int .i64 r, .slice qa m qc, .int .i64 nw], old w]))
      case atStart => exact ⟨0, O, ao, co, n, Nat.zero_le _, rfl, rfl, rfl, Lib.hid (by simp), hOn, hV1⟩
      case round =>
        clear hV1
        obtain ⟨k, P, ap, cp, np, hk, hgm2, rfl, rfl, hP, hPn, hV⟩ := hrel
        by_cases hlt2 : k < m
        · obtain ⟨qb, qo, rfl, hqb, hqz⟩ := hqr.out (by omega)
          obtain ⟨y0, y1, y2, y3, y4⟩ := hqz k hlt2
          have kk : ∀ o, wr.cell? ⟨qb, o, none⟩ = w.cell? ⟨qb, o, none⟩ := fun o => hV.out.to2.gold.cell (p := ⟨qb, o, none⟩) hqb
          rw [← kk] at y0 y1 y2 y3 y4
          have hqn := hqs.out k (by rw [hm.out]; exact hlt2)
          have hPl : P.length ≤ 1296 := by
            have h1 := hql.out k
            rw [hP.out, List.length_append]
            omega
          clear kk hqz
          generalize l.getD k default = q at *
          replace hqn := Lib.hid (show O ++ (l.take (k + 1)).flatMap (rqE l) = P ++ mkE q.txn (blkV l q.id) by rw [hqn, ← List.append_assoc, ← hP.out]; rfl)
          have HB1 := Lib.hid (fun W hb => HB.out q.id W hb)
          have hbl1 := hbl.out q.id
          obtain ⟨id, txn, mode, want, since⟩ := q
          simp only at y0 y1 y2 y3 y4 hqn HB1 hbl1
          generalize blkV l id = bs at *
          obtain ⟨nb, hnb⟩ : ∃ nb, bs.length = nb := ⟨_, rfl⟩
          rw [hnb] at hbl1
          simp only [hnb] at HB1
          replace HB1 := Lib.hid HB1.out
          replace hnb := Lib.hid hnb
          have i1 : (0 : Int) ≤ (k : Int) := by omega
          have i2 : (k : Int) < (m : Int) := by omega
          have hV1 := Lib.hid (show Sep _ [blk wr.heap.size 58 #[.int .i64 id, .int .i64 txn, .int .i64 mode, .int .i64 want, .int .i64 since], _, _, _] from hV.out.alloc #[.int .i64 id, .int .i64 txn, .int .i64 mode, .int .i64 want, .int .i64 since] 58)
          obtain ⟨_, p0, p1, p2, p3, p4, _⟩ := hV1.out.b5
          obtain ⟨_, d0, d1, d2, d3, _⟩ := hV1.out.to2.b4
          have hms2 := Lib.hid (show m - (k + 1) < m - k by omega)
          go_wp2_with fail
          refine (HB1.out _ (hV1.out.to3.gold)).mono ?_
          rintro e w2 ⟨ba, bc, rfl, qq⟩
          replace hV1 := Lib.hid (qq.graft (show Sep _ [blk wr.heap.size 58 #[.int .i64 id, .int .i64 txn, .int .i64 mode, .int .i64 want, .int .i64 since], vec 36 2 (.slice ap np cp) np (P.flatMap Ed.cells), blk gh 43 #[.int .i64 t, .int .i64 r, .slice (some ⟨qb, qo, none⟩) m qc, .int .i64 nw], old w] from hV1.out))
          clear qq HB1 p0 p1 p2 p3 p4 d0 d1 d2 d3 hV y0 y1 y2 y3 y4
          generalize hG : wr.heap.size = gr at *
          clear hG
          go_wp2_with fail
          go_loopg [3, 28] nb (fun gm s3 s28 W => ∃ (j : Nat) (S : List Ed) (sa : Option Addr) (sc ns : Nat), j ≤ nb ∧ gm = nb - j ∧ s3 = .slice sa ns sc ∧ s28 = .int .i64 j ∧ Hid (S = P ++ mkE txn (bs.take j)) ∧ Hid (S.length = ns) ∧ Hid (Sep W [vec 36 2 (.slice sa ns sc) ns (S.flatMap Ed.cells), vec 3 1 (.slice ba nb bc) nb (bs.map (Value.int .i64)), blk gr 58 #[.int .i64 id, .int .i64 txn, .int .i64 mode, .int .i64 want, .int .i64 since], blk gh 43 #[.int .i64 t, .int .i64 r, .slice (some ⟨qb, qo, none⟩) m qc, .int .i64 nw], old w]))
          case atStart => exact ⟨0, P, ap, cp, np, Nat.zero_le _, rfl, rfl, rfl, Lib.hid (by simp [mkE]), hPn, Lib.hid (by have h := hV1.out.to2; exact h)⟩
          case round =>
            clear hV1
            obtain ⟨j, S, sa, sc, ns, hj, hgm3, rfl, rfl, hS, hSn, hV⟩ := hrel
            by_cases hlt3 : j < nb
            · obtain ⟨a', c', ev, hcell⟩ := hV.out.to1.vec_ri
              injection ev with ea el ec
              clear el ec
              obtain ⟨rb, ro, hba, _, hc⟩ := hcell (by rw [hnb.out]; omega)
              rw [hba] at ea
              subst ea
              have c0 := hc j (by rw [hnb.out]; exact hlt3)
              obtain ⟨_, p0, p1, p2, p3, p4, _⟩ := hV.out.to2.b5
              have hsn3 := mkE_snoc txn bs j (by rw [hnb.out]; exact hlt3)
              have hSl : ns ≤ 1400 := by
                have h1 := hSn.out
                rw [hS.out, List.length_append] at h1
                have h2 : (mkE txn (bs.take j)).length ≤ nb := by simp [mkE]; omega
                omega
              generalize bs.getD j 0 = bj at *
              replace hsn3 := Lib.hid (show P ++ mkE txn (bs.take (j + 1)) = S ++ [⟨txn, bj⟩] by rw [hsn3, ← List.append_assoc, ← hS.out])
              clear hc hcell hba
              have i1 : (0 : Int) ≤ (j : Int) := by omega
              have i2 : (j : Int) < (nb : Int) := by omega
              have hms3 := Lib.hid (show nb - (j + 1) < nb - j by omega)
              go_wp2_with (at_builtin; (refine wpList_append_sep (hV.out.allocG _) rfl _ _ 22 rfl i0 _ 16 Tryz.underlying22 hi0 hz0 hz1 hz2 rfl (by decide) rfl 1 [.int .i64 txn, .int .i64 bj] (srcA_cells _ _ _ _ 2 rfl) (h1c.out _ _) (by simp only [maxLen]; omega) (by omega) ?_; intro oa' oc' w5 q2; replace q2 := Lib.hid q2))
              go_roundg (nb - (j + 1))
              case measure => rw [hgm3]; exact hms3.out
              case rel => exact ⟨j + 1, S ++ [⟨txn, bj⟩], oa', oc', ns + 1, by omega, rfl, rfl, by go_num, Lib.hid hsn3.out.symm, Lib.hid (by simp [hSn.out]), Lib.hid (by rw [List.flatMap_append]; exact q2.out)⟩
            · obtain rfl : j = nb := by omega
              have hS2 := Lib.hid (show S = O ++ (l.take (k + 1)).flatMap (rqE l) by rw [hS.out, ← hnb.out, List.take_length]; exact hqn.out.symm)
              clear hS
              go_wp2_with fail
              go_roundg (m - (k + 1))
              case measure => rw [hgm2]; exact hms2.out
              case rel => exact ⟨k + 1, S, sa, sc, ns, by omega, rfl, rfl, by go_num, hS2, hSn, Lib.hid hV.out.drop1.drop1⟩
        · obtain rfl : k = m := by omega
          have hP2 := Lib.hid (show P = hdsE (hs.take (i + 1)) by rw [hP.out, ← hm.out, List.take_length]; exact hsn.out.symm)
          clear hP
          go_wp2_with fail
          go_roundg (n0 - (i + 1))
          case measure => rw [hgm]; exact hms.out
          case rel => exact ⟨i + 1, P, ap, cp, np, by omega, rfl, rfl, by go_num, hP2, hPn, Lib.hid hV.out.drop1⟩
    · obtain rfl : i = n0 := by omega
      have hfn : O = hdsE hs := by rw [hO.out, ← hn0.out, List.take_length]
      subst hfn
      have hOn2 := hOn.out
      subst hOn2
      have HS1 := Lib.hid (HS.out _ _ hV.out.vec_rl)
      clear HS hO hlen hsnoc hmem
      have i2 : ¬ (i : Int) < (i : Int) := by omega
      go_wp2_with fail
      refine HS1.out.mono ?_
      rintro e w3 ⟨ra, rc, rfl, qq⟩
      replace qq := Lib.hid (qq.graft hV.out)
      clear HS1
      go_wp2_with fail
      go_ret
      exact ⟨ra, rc, rfl, qq.out.drop1⟩
end Go.Proofs.YthbamhfnemdebaaGreat
namespace Go.Proofs.YthbamhfnemdebaaGreat
open Go.RowKit
set_option maxHeartbeats 20000000 in
set_option maxRecDepth 100000 in
theorem edgesR_any (u : Value) (hs : List Hv) (w : World) (hv : HD w u hs) (hl : hs.length ≤ 8) (h12 : ∀ x ∈ hs, x.l.length ≤ 12) (hids : ∀ x ∈ hs, IdsD x.l) :
    Calls Tryz.prog 31 #[u] w fun e w' => ∃ a c, e = .returned (.slice a (sdE (hdsE hs)).length c) ∧ Sep w' [vec 36 2 (.slice a (sdE (hdsE hs)).length c) (sdE (hdsE hs)).length ((sdE (hdsE hs)).flatMap Ed.cells), old w] := by
  obtain ⟨ua, uc, rfl, hr, hq⟩ := hv
  obtain ⟨n0, hn0⟩ : ∃ n0, hs.length = n0 := ⟨_, rfl⟩
  rw [hn0] at hr hq hl ⊢
  have HS := Lib.hid (fun v W (h : RL W v 2 (hdsE hs).length ((hdsE hs).flatMap Ed.cells)) => sortedR_any v (hdsE hs) W h (by
    have := hdsE_take_len hs h12 n0 hl
    rw [← hn0, List.take_length] at this
    omega))
  replace hr := Lib.hid hr
  replace hq := Lib.hid hq
  have hlen := Lib.hid (fun k h => hdsE_take_len hs h12 k h)
  have hsnoc := Lib.hid (hdsE_snoc hs)
  have hmem := Lib.hid (fun i (hi : i < n0) => show (hs.getD i default).l.length ≤ 12 ∧ IdsD (hs.getD i default).l from by
    have : i < hs.length := by omega
    have e : hs.getD i default = hs[i] := by simp [List.getD, this]
    rw [e]
    exact ⟨h12 _ (List.getElem_mem this), hids _ (List.getElem_mem this)⟩)
  replace hn0 := Lib.hid hn0
  obtain ⟨i0, hi0, hz0, hz1, hz2⟩ := info_parts info_ed
  have h1c : Hid (∀ x y, ∀ u ∈ ([.int .i64 x, .int .i64 y] : List Value), u.oneCell' = true) := Lib.hid (by simp [Value.oneCell'])
  have hV0 := Lib.hid ((Sep.start w).vec_nil 36 2)
  clear h12 hids
  go_enter Tryz.func31, Tryz.ntmps31
  go_wp2_with fail
  go_loopg [3, 4] n0 (fun gm s3 s12 W => ∃ (i : Nat) (O : List Ed) (ao : Option Addr) (co n : Nat), i ≤ n0 ∧ gm = n0 - i ∧ s3 = .slice ao n co ∧ s12 = .int .i64 i ∧ Hid (O = hdsE (hs.take i)) ∧ Hid (O.length = n) ∧ Hid (Sep W [vec 36 2 (.slice ao n co) n (O.flatMap Ed.cells), old w]))
  case atStart => exact ⟨0, [], none, 0, 0, Nat.zero_le _, rfl, rfl, rfl, Lib.hid rfl, Lib.hid rfl, hV0⟩
  case round =>
    clear hV0
    obtain ⟨i, O, ao, co, n, hi, hgm, rfl, rfl, hO, hOn, hV⟩ := hrel
    by_cases hlt : i < n0
    · obtain ⟨b, off, rfl, hb, hz⟩ := hr.out (by omega)
      obtain ⟨y0, y1, y2, y3⟩ := hz i hlt
      have hRQ := hq.out i hlt
      obtain ⟨hx12, hD⟩ := hmem.out i hlt
      have hsn := hsnoc.out i (by rw [hn0.out]; exact hlt)
      rw [← hO.out] at hsn
      have hOl : O.length ≤ 1152 := by rw [hO.out]; exact hlen.out i (by omega)
      clear hz
      generalize hs.getD i default = x at *
      obtain ⟨t, r, nw, v, l⟩ := x
      simp only at y0 y1 y2 y3 hRQ hx12 hsn hD
      have HB := Lib.hid (fun id W (hb : Below w.heap.size w W) => blkR_any t r nw v l id W (hRQ.below hb) (by omega) hD)
      have hbl := Lib.hid (blkV_len l)
      have hqs := Lib.hid (quE_snoc l)
      have hql := Lib.hid (fun k => quE_len1 l k hx12)
      replace hsn := Lib.hid hsn
      replace y0 := Lib.hid y0
      replace y1 := Lib.hid y1
      replace y3 := Lib.hid y3
      obtain ⟨qa, qc, rfl, hlq, _, hqr⟩ := hRQ
      replace hqr := Lib.hid hqr
      obtain ⟨m, hm⟩ : ∃ m, l.length = m := ⟨_, rfl⟩
      rw [hm] at hqr hlq hx12 y2 hbl
      simp only [hm] at HB
      replace HB := Lib.hid HB.out
      replace hm := Lib.hid hm
      replace y2 := Lib.hid y2
      clear hD
      have i1 : (0 : Int) ≤ (i : Int) := by omega
      have i2 : (i : Int) < (n0 : Int) := by omega
      have hms := Lib.hid (show n0 - (i + 1) < n0 - i by omega)
      unfold hval at HB
      go_wp2_with fail
      go_loopg [3, 5] m (fun gm s3 s19 W => ∃ (k : Nat) (P : List Ed) (ap : Option Addr) (cp np : Nat), k ≤ m ∧ gm = m - k ∧ s3 = .slice ap np cp ∧ s19 = .int .i64 k ∧ Hid (P = O ++ (l.take k).flatMap (rqE l)) ∧ Hid (P.length = np) ∧ Hid (Sep W [vec 36 2 (.slice ap np cp) np (P.flatMap Ed.cells), old w]))
      case atStart => exact ⟨0, O, ao, co, n, Nat.zero_le _, rfl, rfl, rfl, Lib.hid (by simp), hOn, hV⟩
      case round =>
        clear hV
        obtain ⟨k, P, ap, cp, np, hk, hgm2, rfl, rfl, hP, hPn, hV⟩ := hrel
        have z2 := (hV.out.tail.gold.cell (p := ⟨b, off + i * 4 + 2, none⟩) hb).trans y2.out
        by_cases hlt2 : k < m
        · obtain ⟨qb, qo, rfl, hqb, hqz⟩ := hqr.out (by omega)
          obtain ⟨x0, x1, x2, x3, x4⟩ := hqz k hlt2
          have kk : ∀ o, wr.cell? ⟨qb, o, none⟩ = w.cell? ⟨qb, o, none⟩ := fun o => hV.out.tail.gold.cell (p := ⟨qb, o, none⟩) hqb
          rw [← kk] at x0 x1 x2 x3 x4
          have hqn := hqs.out k (by rw [hm.out]; exact hlt2)
          have hPl : P.length ≤ 1296 := by
            have h1 := hql.out k
            rw [hP.out, List.length_append]
            omega
          clear kk hqz
          generalize l.getD k default = q at *
          replace hqn := Lib.hid (show O ++ (l.take (k + 1)).flatMap (rqE l) = P ++ mkE q.txn (blkV l q.id) by rw [hqn, ← List.append_assoc, ← hP.out]; rfl)
          have HB1 := Lib.hid (fun W hb => HB.out q.id W hb)
          have hbl1 := hbl.out q.id
          obtain ⟨id, txn, mode, want, since⟩ := q
          simp only at x0 x1 x2 x3 x4 hqn HB1 hbl1
          generalize blkV l id = bs at *
          obtain ⟨nb, hnb⟩ : ∃ nb, bs.length = nb := ⟨_, rfl⟩
          rw [hnb] at hbl1
          simp only [hnb] at HB1
          replace HB1 := Lib.hid HB1.out
          replace hnb := Lib.hid hnb
          have k1 : (0 : Int) ≤ (k : Int) := by omega
          have k2 : (k : Int) < (m : Int) := by omega
          have hV1 := Lib.hid (show Sep _ [vec 36 2 (.slice ap np cp) np (P.flatMap Ed.cells), blk wr.heap.size 58 #[.int .i64 id, .int .i64 txn, .int .i64 mode, .int .i64 want, .int .i64 since], old w] from (hV.out.alloc #[.int .i64 id, .int .i64 txn, .int .i64 mode, .int .i64 want, .int .i64 since] 58).to1)
          have hms2 := Lib.hid (show m - (k + 1) < m - k by omega)
          go_wp2_with fail
          clear hV x0 x1 x2 x3 x4 z2
          have hV := Lib.hid (show Sep _ [_, _, _] from hV1.out.drew)
          clear hV1
          generalize wr.heap.size = gr at *
          have hS := Lib.hid (show (fun W : World => Sep W [blk gr 58 #[.int .i64 id, .int .i64 txn, .int .i64 mode, .int .i64 want, .int .i64 since], old w]) _ from hV.out.tail)
          refine hl_begin (fun W : World => Sep W [blk gr 58 #[.int .i64 id, .int .i64 txn, .int .i64 mode, .int .i64 want, .int .i64 since], old w]) [(0, true), (1, true), (2, true), (3, true), (4, true), (5, true), (6, false), (7, true)] (by kernel_rfl) (by kernel_rfl) (by kernel_rfl) rfl (fun _ _ _ _ _ h => h) hS.out ?_
          change HL _ _ _ _ _ _ (World.drew _)
          generalize World.drew _ = wd at *
          refine hl_take ?v1 rfl (by kernel_rfl) ?y1 ?z1
          case y1 => intro W hW; skip; replace hW := Lib.hid hW; go_simp; try rfl
          case z1 =>
          simp only [Act.put, List.setIfInBounds_toArray, List.set_cons_succ, List.set_cons_zero, List.getElem_toArray, List.getElem_cons_zero, List.getElem_cons_succ]
          refine hl_take ?v2 rfl (by kernel_rfl) ?y2 ?z2
          case y2 => intro W hW; skip; replace hW := Lib.hid hW; go_simp; try rfl
          case z2 =>
          simp only [Act.put, List.setIfInBounds_toArray, List.set_cons_succ, List.set_cons_zero, List.getElem_toArray, List.getElem_cons_zero, List.getElem_cons_succ]
          refine hl_take ?v3 rfl (by kernel_rfl) ?y3 ?z3
          case y3 => intro W hW; skip; replace hW := Lib.hid hW; go_simp; try rfl
          case z3 =>
          simp only [Act.put, List.setIfInBounds_toArray, List.set_cons_succ, List.set_cons_zero, List.getElem_toArray, List.getElem_cons_zero, List.getElem_cons_succ]
          refine hl_take ?v4 rfl (by kernel_rfl) ?y4 ?z4
          case y4 => intro W hW; change Sep W _ at hW; obtain ⟨_, p0, p1, p2, p3, p4, _⟩ := hW.b5; have z0 := (hW.tail.gold.cell (p := ⟨b, off + i * 4, none⟩) hb).trans y0.out; have z1 := (hW.tail.gold.cell (p := ⟨b, off + i * 4 + 1, none⟩) hb).trans y1.out; have z2 := (hW.tail.gold.cell (p := ⟨b, off + i * 4 + 2, none⟩) hb).trans y2.out; have z3 := (hW.tail.gold.cell (p := ⟨b, off + i * 4 + 3, none⟩) hb).trans y3.out; replace hW := Lib.hid hW; go_simp; try rfl
          case z4 =>
          simp only [Act.put, List.setIfInBounds_toArray, List.set_cons_succ, List.set_cons_zero, List.getElem_toArray, List.getElem_cons_zero, List.getElem_cons_succ]
          refine hl_take ?v5 rfl (by kernel_rfl) ?y5 ?z5
          case y5 => intro W hW; skip; replace hW := Lib.hid hW; go_simp; try rfl
          case z5 =>
          simp only [Act.put, List.setIfInBounds_toArray, List.set_cons_succ, List.set_cons_zero, List.getElem_toArray, List.getElem_cons_zero, List.getElem_cons_succ]
          refine hl_take ?v6 rfl (by kernel_rfl) ?y6 ?z6
          case y6 => intro W hW; change Sep W _ at hW; obtain ⟨_, p0, p1, p2, p3, p4, _⟩ := hW.b5; have z0 := (hW.tail.gold.cell (p := ⟨b, off + i * 4, none⟩) hb).trans y0.out; have z1 := (hW.tail.gold.cell (p := ⟨b, off + i * 4 + 1, none⟩) hb).trans y1.out; have z2 := (hW.tail.gold.cell (p := ⟨b, off + i * 4 + 2, none⟩) hb).trans y2.out; have z3 := (hW.tail.gold.cell (p := ⟨b, off + i * 4 + 3, none⟩) hb).trans y3.out; replace hW := Lib.hid hW; go_simp; try rfl
          case z6 =>
          simp only [Act.put, List.setIfInBounds_toArray, List.set_cons_succ, List.set_cons_zero, List.getElem_toArray, List.getElem_cons_zero, List.getElem_cons_succ]
          refine hl_one rfl (by kernel_rfl) (fun K hK => ?_)
          go_simp
          refine (HB1.out _ (show Sep _ [blk gr 58 #[.int .i64 id, .int .i64 txn, .int .i64 mode, .int .i64 want, .int .i64 since], old w] from hS.out).tail.gold).mono ?_
          rintro e w3 ⟨ba, bc, rfl, q⟩
          replace hV := Lib.hid (q.graft hV.out)
          clear q
          replace hS := Lib.hid (show (fun W : World => Sep W [blk gr 58 #[.int .i64 id, .int .i64 txn, .int .i64 mode, .int .i64 want, .int .i64 since], old w]) _ from hV.out.tail.tail)
          refine hK.out _ _ hS.out ?_
          clear hK K
          try simp only [Act.put, List.setIfInBounds_toArray, List.set_cons_succ, List.set_cons_zero, List.getElem_toArray, List.getElem_cons_zero, List.getElem_cons_succ]
          refine hl_take ?v7 rfl (by kernel_rfl) ?y7 ?z7
          case y7 => intro W hW; skip; replace hW := Lib.hid hW; go_simp; try rfl
          case z7 =>
          simp only [Act.put, List.setIfInBounds_toArray, List.set_cons_succ, List.set_cons_zero, List.getElem_toArray, List.getElem_cons_zero, List.getElem_cons_succ]
          refine hl_done ?_
          skip
          clear hS
          go_wp2_with fail
          go_loopg [3, 8] nb (fun gm s3 s28 W => ∃ (j : Nat) (S : List Ed) (sa : Option Addr) (sc ns : Nat), j ≤ nb ∧ gm = nb - j ∧ s3 = .slice sa ns sc ∧ s28 = .int .i64 j ∧ Hid (S = P ++ mkE txn (bs.take j)) ∧ Hid (S.length = ns) ∧ Hid (Sep W [vec 36 2 (.slice sa ns sc) ns (S.flatMap Ed.cells), vec 3 1 (.slice ba nb bc) nb (bs.map (Value.int .i64)), blk gr 58 #[.int .i64 id, .int .i64 txn, .int .i64 mode, .int .i64 want, .int .i64 since], old w]))
          case atStart => exact ⟨0, P, ap, cp, np, Nat.zero_le _, rfl, rfl, rfl, Lib.hid (by simp [mkE]), hPn, Lib.hid hV.out.to1⟩
          case round =>
            clear hV
            obtain ⟨j, S, sa, sc, ns, hj, hgm3, rfl, rfl, hS0, hSn, hV⟩ := hrel
            by_cases hlt3 : j < nb
            · obtain ⟨ig, rfl⟩ := hV.out.to1.vec_ptr (by omega)
              have hat := Lib.hid (int_at (xs := bs) (i := j) (by rw [hnb.out]; exact hlt3))
              have hsn3 := mkE_snoc txn bs j (by rw [hnb.out]; exact hlt3)
              have hSl : Hid (ns ≤ 1400) := Lib.hid (by
                have h1 := hSn.out
                rw [hS0.out, List.length_append] at h1
                have h2 : (mkE txn (bs.take j)).length ≤ nb := by simp [mkE]; omega
                omega)
              generalize bs.getD j 0 = bj at *
              replace hsn3 := Lib.hid (show P ++ mkE txn (bs.take (j + 1)) = S ++ [⟨txn, bj⟩] by rw [hsn3, ← List.append_assoc, ← hS0.out])
              have j1 : (0 : Int) ≤ (j : Int) := by omega
              have j2 : (j : Int) < (nb : Int) := by omega
              have hms3 := Lib.hid (show nb - (j + 1) < nb - j by omega)
              go_wp2_with fail
              replace hV := Lib.hid (show Sep _ [_, _, _, _] from hV.out.drew)
              have hS := Lib.hid (show (fun W : World => Sep W [vec 3 1 (.slice (some ⟨ig, 0, none⟩) nb bc) nb (bs.map (Value.int .i64)), blk gr 58 #[.int .i64 id, .int .i64 txn, .int .i64 mode, .int .i64 want, .int .i64 since], old w]) _ from hV.out.tail)
              refine hl_begin (fun W : World => Sep W [vec 3 1 (.slice (some ⟨ig, 0, none⟩) nb bc) nb (bs.map (Value.int .i64)), blk gr 58 #[.int .i64 id, .int .i64 txn, .int .i64 mode, .int .i64 want, .int .i64 since], old w]) [(0, true), (1, true), (2, true), (3, true), (4, true), (5, true), (6, true), (7, true), (8, false), (9, false), (10, true)] (by kernel_rfl) (by kernel_rfl) (by kernel_rfl) rfl (fun _ _ _ _ _ h => h) hS.out ?_
              change HL _ _ _ _ _ _ (World.drew _)
              generalize World.drew _ = wd at *
              refine hl_take ?v8 rfl (by kernel_rfl) ?y8 ?z8
              case y8 => intro W hW; skip; replace hW := Lib.hid hW; go_simp; try rfl
              case z8 =>
              simp only [Act.put, List.setIfInBounds_toArray, List.set_cons_succ, List.set_cons_zero, List.getElem_toArray, List.getElem_cons_zero, List.getElem_cons_succ]
              refine hl_take ?v9 rfl (by kernel_rfl) ?y9 ?z9
              case y9 => intro W hW; skip; replace hW := Lib.hid hW; go_simp; try rfl
              case z9 =>
              simp only [Act.put, List.setIfInBounds_toArray, List.set_cons_succ, List.set_cons_zero, List.getElem_toArray, List.getElem_cons_zero, List.getElem_cons_succ]
              refine hl_take ?v10 rfl (by kernel_rfl) ?y10 ?z10
              case y10 => intro W hW; change Sep W _ at hW; obtain ⟨_, p0, p1, p2, p3, p4, _⟩ := hW.to1.b5; have c0 := (hW.vec_cell hat.out).1; replace hW := Lib.hid hW; go_simp; try rfl
              case z10 =>
              simp only [Act.put, List.setIfInBounds_toArray, List.set_cons_succ, List.set_cons_zero, List.getElem_toArray, List.getElem_cons_zero, List.getElem_cons_succ]
              refine hl_take ?v11 rfl (by kernel_rfl) ?y11 ?z11
              case y11 => intro W hW; skip; replace hW := Lib.hid hW; go_simp; try rfl
              case z11 =>
              simp only [Act.put, List.setIfInBounds_toArray, List.set_cons_succ, List.set_cons_zero, List.getElem_toArray, List.getElem_cons_zero, List.getElem_cons_succ]
              refine hl_take ?v12 rfl (by kernel_rfl) ?y12 ?z12
              case y12 => intro W hW; skip; replace hW := Lib.hid hW; go_simp; try rfl
              case z12 =>
              simp only [Act.put, List.setIfInBounds_toArray, List.set_cons_succ, List.set_cons_zero, List.getElem_toArray, List.getElem_cons_zero, List.getElem_cons_succ]
              refine hl_take ?v13 rfl (by kernel_rfl) ?y13 ?z13
              case y13 => intro W hW; skip; replace hW := Lib.hid hW; go_simp; try rfl
              case z13 =>
              simp only [Act.put, List.setIfInBounds_toArray, List.set_cons_succ, List.set_cons_zero, List.getElem_toArray, List.getElem_cons_zero, List.getElem_cons_succ]
              refine hl_take ?v14 rfl (by kernel_rfl) ?y14 ?z14
              case y14 => intro W hW; change Sep W _ at hW; obtain ⟨_, p0, p1, p2, p3, p4, _⟩ := hW.to1.b5; have c0 := (hW.vec_cell hat.out).1; replace hW := Lib.hid hW; go_simp; try rfl
              case z14 =>
              simp only [Act.put, List.setIfInBounds_toArray, List.set_cons_succ, List.set_cons_zero, List.getElem_toArray, List.getElem_cons_zero, List.getElem_cons_succ]
              refine hl_take ?v15 rfl (by kernel_rfl) ?y15 ?z15
              case y15 => intro W hW; skip; replace hW := Lib.hid hW; go_simp; try rfl
              case z15 =>
              simp only [Act.put, List.setIfInBounds_toArray, List.set_cons_succ, List.set_cons_zero, List.getElem_toArray, List.getElem_cons_zero, List.getElem_cons_succ]
              refine hl_one rfl (by kernel_rfl) (fun K hK => ?_)
              go_simp
              replace hV := Lib.hid (hV.out.allocG (.cells #[.int .i64 txn, .int .i64 bj] 36))
              have hsrc := Lib.hid (srcA_cells wd #[.int .i64 txn, .int .i64 bj] 36 1 2 rfl)
              replace hS := Lib.hid (show (fun W : World => Sep W [vec 3 1 (.slice (some ⟨ig, 0, none⟩) nb bc) nb (bs.map (Value.int .i64)), blk gr 58 #[.int .i64 id, .int .i64 txn, .int .i64 mode, .int .i64 want, .int .i64 since], old w]) _ from hV.out.tail)
              refine hK.out _ _ hS.out ?_
              clear hK K
              try simp only [Act.put, List.setIfInBounds_toArray, List.set_cons_succ, List.set_cons_zero, List.getElem_toArray, List.getElem_cons_zero, List.getElem_cons_succ]
              refine hl_one rfl (by kernel_rfl) (fun K hK => ?_)
              refine wp_append_sep hV.out (.tmp 46) (.tmp 54) 22 (by rfl) i0 _ 16 Tryz.underlying22 hi0 hz0 hz1 hz2 rfl (by decide) (by rfl) 1 [.int .i64 txn, .int .i64 bj] (by exact hsrc.out) (h1c.out _ _) ?c901 ?d901 ?_
              case c901 => have := hSl.out; simp only [maxLen]; omega
              case d901 => have := hSl.out; omega
              intro na nc w5 q
              replace hV := Lib.hid q
              clear q hsrc
              replace hS := Lib.hid (show (fun W : World => Sep W [vec 3 1 (.slice (some ⟨ig, 0, none⟩) nb bc) nb (bs.map (Value.int .i64)), blk gr 58 #[.int .i64 id, .int .i64 txn, .int .i64 mode, .int .i64 want, .int .i64 since], old w]) _ from hV.out.tail)
              refine hK.out _ _ hS.out ?_
              clear hK K
              try simp only [Act.put, List.setIfInBounds_toArray, List.set_cons_succ, List.set_cons_zero, List.getElem_toArray, List.getElem_cons_zero, List.getElem_cons_succ]
              refine hl_take ?v16 rfl (by kernel_rfl) ?y16 ?z16
              case y16 => intro W hW; skip; replace hW := Lib.hid hW; go_simp; try rfl
              case z16 =>
              simp only [Act.put, List.setIfInBounds_toArray, List.set_cons_succ, List.set_cons_zero, List.getElem_toArray, List.getElem_cons_zero, List.getElem_cons_succ]
              refine hl_done ?_
              skip
              clear hS
              go_wp2_with fail
              go_roundg (nb - (j + 1))
              case measure => first | exact hms3.out | (rw [hgm3]; exact hms3.out)
              case rel => exact ⟨j + 1, S ++ [⟨txn, bj⟩], na, nc, ns + 1, by omega, rfl, rfl, by go_num, Lib.hid hsn3.out.symm, Lib.hid (by simp [hSn.out]), Lib.hid (by rw [List.flatMap_append]; exact hV.out)⟩
            · obtain rfl : j = nb := by omega
              have hS2 := Lib.hid (show S = O ++ (l.take (k + 1)).flatMap (rqE l) by rw [hS0.out, ← hnb.out, List.take_length]; exact hqn.out.symm)
              clear hS0
              go_wp2_with fail
              go_roundg (m - (k + 1))
              case measure => first | exact hms2.out | (rw [hgm2]; exact hms2.out)
              case rel => exact ⟨k + 1, S, sa, sc, ns, by omega, rfl, rfl, by go_num, hS2, hSn, Lib.hid hV.out.drop1.drop1⟩
        · obtain rfl : k = m := by omega
          have hP2 := Lib.hid (show P = hdsE (hs.take (i + 1)) by rw [hP.out, ← hm.out, List.take_length]; exact hsn.out.symm)
          clear hP
          go_wp2_with fail
          go_roundg (n0 - (i + 1))
          case measure => first | exact hms.out | (rw [hgm]; exact hms.out)
          case rel => exact ⟨i + 1, P, ap, cp, np, by omega, rfl, rfl, by go_num, hP2, hPn, hV⟩
    · obtain rfl : i = n0 := by omega
      have hfn : O = hdsE hs := by rw [hO.out, ← hn0.out, List.take_length]
      subst hfn
      have hOn2 := hOn.out
      subst hOn2
      have HS1 := Lib.hid (HS.out _ _ hV.out.vec_rl)
      clear HS hO hlen hsnoc hmem
      have i2 : ¬ (i : Int) < (i : Int) := by omega
      go_wp2_with fail
      refine HS1.out.mono ?_
      rintro e w3 ⟨ra, rc, rfl, qq⟩
      replace qq := Lib.hid (qq.graft hV.out)
      clear HS1
      go_wp2_with fail
      go_ret
      exact ⟨ra, rc, rfl, qq.out.drop1⟩
end Go.Proofs.YthbamhfnemdebaaGreat
namespace Go.Proofs.YthbamhfnemdebaaGreat
open Go.RowKit
def lightH (hs : List Hv) (most : Nat) : Bool := decide (hs.length ≤ most) && hs.all fun x => decide (x.l.length ≤ 12)
theorem all_bad {α : Type} [Inhabited α] {p : α → Bool} {l : List α} {k : Nat} (hk : k < l.length) (h : p (l.getD k default) = false) : l.all p = false := by
  rw [List.all_eq_false]
  have e : l.getD k default = l[k] := by simp [List.getD, hk]
  rw [e] at h
  exact ⟨l[k], List.getElem_mem hk, by simp [h]⟩
theorem all_good {α : Type} [Inhabited α] {p : α → Bool} {l : List α} (h : ∀ k, k < l.length → p (l.getD k default) = true) : l.all p = true := by
  rw [List.all_eq_true]
  intro x hx
  obtain ⟨k, hk, rfl⟩ := List.getElem_of_mem hx
  have := h k hk
  simpa [List.getD, hk] using this
theorem all_at {α : Type} [Inhabited α] {p : α → Bool} {l : List α} (h : l.all p = true) {k : Nat} (hk : k < l.length) : p (l.getD k default) = true := by
  rw [List.all_eq_true] at h
  have e : l.getD k default = l[k] := by simp [List.getD, hk]
  rw [e]
  exact h _ (List.getElem_mem hk)
set_option maxHeartbeats 2000000 in
theorem light_any (u : Value) (hs : List Hv) (most : Nat) (w : World) (hv : HD w u hs) (hm : most ≤ 100) :
    Calls Tryz.prog 5 #[u, .int .i64 most] w fun e w' => e = .returned (.bool (lightH hs most)) ∧ w = w' := by
  obtain ⟨ua, uc, rfl, hr, hq⟩ := hv
  obtain ⟨n0, hn0⟩ : ∃ n0, hs.length = n0 := ⟨_, rfl⟩
  have hlb : ∀ k, k < hs.length → decide ((hs.getD k default).l.length ≤ 12) = false → lightH hs most = false := fun k hk h => by
    unfold lightH
    rw [all_bad (p := fun x : Hv => decide (x.l.length ≤ 12)) hk h, Bool.and_false]
  have hlg : hs.length ≤ most → (∀ k, k < hs.length → decide ((hs.getD k default).l.length ≤ 12) = true) → lightH hs most = true := fun h0 h => by
    unfold lightH
    rw [all_good (p := fun x : Hv => decide (x.l.length ≤ 12)) h, decide_eq_true h0]
    rfl
  have hl0 : ¬ hs.length ≤ most → lightH hs most = false := fun h => by
    unfold lightH
    rw [decide_eq_false h, Bool.false_and]
  rw [hn0] at hr hq hlb hlg hl0 ⊢
  replace hr := Lib.hid hr
  replace hq := Lib.hid hq
  replace hlb := Lib.hid hlb
  replace hlg := Lib.hid hlg
  clear hn0
  by_cases h0 : n0 ≤ most
  · have i0 : ¬ ((most : Int) < (n0 : Int)) := by omega
    replace hlg := Lib.hid (hlg.out h0)
    clear hl0
    go_enter Tryz.func5, Tryz.ntmps5
    go_wp2_with fail
    go_loopg [5] n0 (fun gm s5 W => ∃ k : Nat, k ≤ n0 ∧ gm = n0 - k ∧ s5 = .int .i64 k ∧ Hid (∀ j, j < k → decide ((hs.getD j default).l.length ≤ 12) = true) ∧ Hid (w = W))
    case atStart => exact ⟨0, Nat.zero_le _, rfl, rfl, Lib.hid (fun j h => absurd h (by omega)), Lib.hid rfl⟩
    case round =>
      obtain ⟨k, hk, hgm, rfl, hok, hW⟩ := hrel
      by_cases hlt : k < n0
      · obtain ⟨b, off, rfl, hb, hz⟩ := hr.out (by omega)
        obtain ⟨_, _, z2, _⟩ := hz k hlt
        have hRQ := hq.out k hlt
        have hbad := Lib.hid (hlb.out k hlt)
        have hokk := Lib.hid (fun (h : decide ((hs.getD k default).l.length ≤ 12) = true) j (hj : j < k + 1) => show decide ((hs.getD j default).l.length ≤ 12) = true from by
          rcases Nat.lt_or_ge j k with h1 | h1
          · exact hok.out j h1
          · obtain rfl : j = k := by omega
            exact h)
        obtain ⟨qa, qc, hqv, _⟩ := hRQ
        rw [hqv, hW.out] at z2
        clear hqv hz
        generalize (hs.getD k default).l.length = m at *
        have i1 : (0 : Int) ≤ (k : Int) := by omega
        have i2 : (k : Int) < (n0 : Int) := by omega
        by_cases h12 : m ≤ 12
        · have i12 : ¬ ((12 : Int) < (m : Int)) := by omega
          replace hokk := Lib.hid (hokk.out (decide_eq_true h12))
          clear hbad
          go_wp2_with fail
          go_roundg (n0 - (k + 1))
          case measure => omega
          case rel => exact ⟨k + 1, by omega, rfl, by go_num, hokk, hW⟩
        · have i12 : (12 : Int) < (m : Int) := by omega
          replace hbad := Lib.hid (hbad.out (decide_eq_false h12))
          go_wp2_with fail
          go_ret
          exact ⟨by rw [hbad.out]; rfl, hW.out⟩
      · obtain rfl : k = n0 := by omega
        have hg := Lib.hid (hlg.out hok.out)
        go_wp2_with fail
        go_ret
        exact ⟨by rw [hg.out]; rfl, hW.out⟩
  · have i0 : (most : Int) < (n0 : Int) := by omega
    have hg := Lib.hid (hl0 h0)
    clear hl0 hlg
    go_enter Tryz.func5, Tryz.ntmps5
    go_wp2_with fail
    go_ret
    exact ⟨by rw [hg.out]; rfl, rfl⟩
end Go.Proofs.YthbamhfnemdebaaGreat
