/-
  Contracts and plain laws that the walk leans on, part 15. No condition.
-/
import Derived.Test.YtmacpjnkmkaloaaGreatZQc14
namespace Go.Proofs.YtmacpjnkmkaloaaGreat
set_option linter.unusedSimpArgs false
set_option linter.unusedVariables false
set_option linter.unnecessarySimpa false
open Go.RowKit
theorem blocks_eq {o q : Rq} (h : o.id ≠ q.id) : blocksB o q = ((o.mode != 0 && !comB o.mode q.want) || ((o.mode != 0 && decide (0 < o.since)) && (!(q.mode != 0) || decide (o.since < q.since))) || ((!(q.mode != 0) && !(o.mode != 0)) && decide (o.since < q.since))) := by
  unfold blocksB upB
  rw [if_neg (by simpa using h)]
  cases o.mode != 0 <;> cases q.mode != 0 <;> cases comB o.mode q.want <;> cases decide (0 < o.since) <;> cases decide (o.since < q.since) <;> rfl
theorem blocks_self (q : Rq) : blocksB q q = false := by simp [blocksB]
def blkF (l : List Rq) (q : Rq) (k : Nat) : List Int := (blkL (l.take k) q).foldl putI []
theorem blkF_yes (l : List Rq) (q : Rq) (k : Nat) (h : k < l.length) (hb : blocksB (l.getD k default) q = true) : blkF l q (k + 1) = putI (blkF l q k) (l.getD k default).txn := by
  unfold blkF
  rw [blkL_snoc l q k h, hb, if_pos rfl, List.foldl_append]
  rfl
theorem blkF_no (l : List Rq) (q : Rq) (k : Nat) (h : k < l.length) (hb : blocksB (l.getD k default) q = false) : blkF l q (k + 1) = blkF l q k := by
  unfold blkF
  rw [blkL_snoc l q k h, hb, if_neg (by decide), List.append_nil]
theorem blkF_all (l : List Rq) (q : Rq) (k : Nat) (h : l.length = k) : blkF l q k = nrm (blkL l q) := by
  unfold blkF
  rw [← h, List.take_length, putI_nrm]
theorem foldP_len : ∀ (L O : List Int), (L.foldl putI O).length ≤ O.length + L.length
  | [], O => by simp
  | e :: L, O => by
    have h1 := foldP_len L (putI O e)
    have h2 := putI_len O e
    simp only [List.foldl_cons, List.length_cons]
    omega
theorem blkF_len (l : List Rq) (q : Rq) (k : Nat) : (blkF l q k).length ≤ l.length := by
  have h1 := foldP_len (blkL (l.take k) q) []
  have h2 := blkL_len (l.take k) q
  rw [List.length_take] at h2
  unfold blkF
  simp only [List.length_nil] at h1
  omega
theorem ids_ne {l : List Rq} (h : IdsD l) (i k : Nat) (hi : i < l.length) (hk : k < l.length) (hik : k ≠ i) : (l.getD k default).id ≠ (l.getD i default).id := by
  exact fun e => hik (h k i hk hi e)
set_option maxHeartbeats 2000000 in
theorem blkR_none (t r n : Int) (v : Value) (l : List Rq) (id0 : Int) (w : World) (hv : RQ w v l) (hl : l.length ≤ 1000) (hi : plc l id0 < 0) :
    Calls Tryz.prog 29 #[hval t r v n, .int .i64 id0] w fun e w' => e = .returned (.slice none 0 0) ∧ Below w.heap.size w w' := by
  have h0 := Lib.hid (fun b0 => (Sep.start w).alloc b0 26)
  have HF := Lib.hid (fun W hb => at_any t r n v l id0 W (hv.below hb) hl)
  rw [show idxF (fun q => q.id == id0) l 0 = -1 from plc_neg hi] at HF
  obtain ⟨a, c, rfl, _⟩ := hv
  unfold hval at *
  have hS := Lib.hid (h0.out #[.int .i64 t, .int .i64 r, .slice a l.length c, .int .i64 n])
  obtain ⟨_, d0, d1, d2, d3, _⟩ := hS.out.b4
  clear h0
  go_enter Tryz.func29, Tryz.ntmps29
  go_wp2_with fail
  refine (HF.out _ hS.out.tail.gold).mono ?_
  rintro e w1 ⟨rfl, b1⟩
  replace hS := Lib.hid (hS.out.below b1)
  clear b1 HF
  go_wp2_with fail
  go_ret
  exact ⟨rfl, hS.out.tail.gold⟩
set_option maxHeartbeats 2000000 in
theorem blkR_calm (t r n : Int) (v : Value) (l : List Rq) (id0 : Int) (w : World) (hv : RQ w v l) (hl : l.length ≤ 1000) (i : Nat) (hi : plc l id0 = i) (hil : i < l.length) (hs : decide (0 < (l.getD i default).since) = false) :
    Calls Tryz.prog 29 #[hval t r v n, .int .i64 id0] w fun e w' => e = .returned (.slice none 0 0) ∧ Below w.heap.size w w' := by
  have h0 := Lib.hid (fun b0 => (Sep.start w).alloc b0 26)
  have HF := Lib.hid (fun W hb => at_any t r n v l id0 W (hv.below hb) hl)
  rw [show idxF (fun q => q.id == id0) l 0 = (i : Int) from hi] at HF
  have HW := Lib.hid (fun W => waitsR_any (l.getD i default) W)
  rw [hs] at HW
  obtain ⟨a, c, rfl, _, _, hr⟩ := hv
  obtain ⟨b, off, rfl, hbl, hz⟩ := hr (by omega)
  obtain ⟨z0, z1, z2, z3, z4⟩ := hz i hil
  clear hs hz hr hi
  generalize l.getD i default = q at *
  obtain ⟨id, txn, mode, want, since⟩ := q
  unfold hval Rq.val at *
  simp only at HW z0 z1 z2 z3 z4
  generalize l.length = m at *
  have hS := Lib.hid (h0.out #[.int .i64 t, .int .i64 r, .slice (some ⟨b, off, none⟩) m c, .int .i64 n])
  obtain ⟨_, d0, d1, d2, d3, _⟩ := hS.out.b4
  clear h0
  have i1 : (0 : Int) ≤ (i : Int) := by omega
  have i2 : (i : Int) < (m : Int) := by omega
  have i3 : decide ((i : Int) < 0) = false := by simp
  go_enter Tryz.func29, Tryz.ntmps29
  go_wp2_with fail
  refine (HF.out _ hS.out.tail.gold).mono ?_
  rintro e w1 ⟨rfl, b1⟩
  replace hS := Lib.hid (hS.out.below b1)
  clear b1 HF d0 d1 d2 d3
  obtain ⟨_, d0, d1, d2, d3, _⟩ := hS.out.b4
  have kk : ∀ o, w1.cell? ⟨b, o, none⟩ = w.cell? ⟨b, o, none⟩ := fun o => hS.out.tail.gold.cell (p := ⟨b, o, none⟩) hbl
  rw [← kk] at z0 z1 z2 z3 z4
  clear kk
  go_wp2_with fail
  refine (HW.out _).mono ?_
  rintro e w2 ⟨rfl, b2⟩
  replace hS := Lib.hid (hS.out.below b2)
  clear b2
  go_wp2_with fail
  go_ret
  exact ⟨rfl, hS.out.tail.gold⟩
set_option maxHeartbeats 40000000 in
set_option maxRecDepth 100000 in
theorem blkR_some (t r n : Int) (v : Value) (l : List Rq) (id0 : Int) (w : World) (hv : RQ w v l) (hl : l.length ≤ 1000) (hD : IdsD l) (i : Nat) (hi : plc l id0 = i) (hil : i < l.length) (hs : decide (0 < (l.getD i default).since) = true) :
    Calls Tryz.prog 29 #[hval t r v n, .int .i64 id0] w fun e w' => ∃ a c, e = .returned (.slice a (nrm (blkL l (l.getD i default))).length c) ∧ Sep w' [vec 3 1 (.slice a (nrm (blkL l (l.getD i default))).length c) (nrm (blkL l (l.getD i default))).length ((nrm (blkL l (l.getD i default))).map (Value.int .i64)), old w] := by
  have h0 := Lib.hid (fun b0 => (Sep.start w).alloc b0 26)
  have HF := Lib.hid (fun W hb => at_any t r n v l id0 W (hv.below hb) hl)
  rw [show idxF (fun q => q.id == id0) l 0 = (i : Int) from hi] at HF
  have HW := Lib.hid (fun W => waitsR_any (l.getD i default) W)
  rw [hs] at HW
  have hne := Lib.hid (fun k hk hki => ids_ne hD i k hil hk hki)
  obtain ⟨a, c, rfl, _, _, hr⟩ := hv
  obtain ⟨b, off, rfl, hbl, hz⟩ := hr (by omega)
  have hzi := hz i hil
  obtain ⟨z0, z1, z2, z3, z4⟩ := hzi
  have hself := Lib.hid (blocks_self (l.getD i default))
  have hyes := Lib.hid (fun k h hb => blkF_yes l (l.getD i default) k h hb)
  have hno := Lib.hid (fun k h hb => blkF_no l (l.getD i default) k h hb)
  have hall := Lib.hid (fun k h => blkF_all l (l.getD i default) k h)
  have hfl := Lib.hid (fun k => blkF_len l (l.getD i default) k)
  have HHq := Lib.hid (fun W => holdsR_any (l.getD i default) W)
  have HHo := Lib.hid (fun x W => holdsR_any x W)
  have HWo := Lib.hid (fun x W => waitsR_any x W)
  have HCo := Lib.hid (fun x y W => compatR_any x y W)
  have hbq := Lib.hid (fun (o : Rq) h => blocks_eq (o := o) (q := l.getD i default) h)
  have HPut := Lib.hid (fun a n c L x w rs h1 h2 h3 h4 => putR_any a n c L x w rs h1 h2 h3 h4)
  have hqe := Lib.hid (show l.getD i default = l.getD i default from rfl)
  clear hs hr hi
  replace hz := Lib.hid hz
  obtain ⟨q, hq⟩ : ∃ q, l.getD i default = q := ⟨_, rfl⟩
  rw [hq] at z0 z1 z2 z3 z4 HW HHq hself hne hyes hno hall hfl hbq ⊢
  replace hq := Lib.hid hq
  obtain ⟨R, hR⟩ : ∃ R, nrm (blkL l q) = R := ⟨_, rfl⟩
  rw [hR]
  simp only [hR] at hall
  obtain ⟨F, hF⟩ : ∃ F, blkF l q = F := ⟨_, rfl⟩
  simp only [hF] at hyes hno hall hfl
  have hF0 : F 0 = [] := by rw [← hF]; simp [blkF, blkL]
  clear hR hF hqe
  obtain ⟨id, txn, mode, want, since⟩ := q
  unfold hval Rq.val at *
  simp only at HW HHq hbq hne z0 z1 z2 z3 z4
  obtain ⟨m, hm⟩ : ∃ m, l.length = m := ⟨_, rfl⟩
  simp only [hm] at hz hne hyes hno hall hfl hil hl HF ⊢
  replace hz := Lib.hid hz.out
  replace hne := Lib.hid hne.out
  replace hyes := Lib.hid hyes.out
  replace hno := Lib.hid hno.out
  replace hall := Lib.hid (hall.out m)
  replace hfl := Lib.hid hfl.out
  replace HF := Lib.hid HF.out
  clear hm
  have hS := Lib.hid (h0.out #[.int .i64 t, .int .i64 r, .slice (some ⟨b, off, none⟩) m c, .int .i64 n])
  obtain ⟨_, d0, d1, d2, d3, _⟩ := hS.out.b4
  clear h0
  have i1 : (0 : Int) ≤ (i : Int) := by omega
  have i2 : (i : Int) < (m : Int) := by omega
  have i3 : decide ((i : Int) < 0) = false := by simp
  go_enter Tryz.func29, Tryz.ntmps29
  go_wp2_with fail
  refine (HF.out _ hS.out.tail.gold).mono ?_
  rintro e w1 ⟨rfl, b1⟩
  replace hS := Lib.hid (hS.out.below b1)
  clear b1 HF d0 d1 d2 d3
  obtain ⟨_, d0, d1, d2, d3, _⟩ := hS.out.b4
  have kk : ∀ o, w1.cell? ⟨b, o, none⟩ = w.cell? ⟨b, o, none⟩ := fun o => hS.out.tail.gold.cell (p := ⟨b, o, none⟩) hbl
  rw [← kk] at z0 z1 z2 z3 z4
  clear kk
  go_wp2_with fail
  refine (HW.out _).mono ?_
  rintro e w2 ⟨rfl, b2⟩
  replace z0 := (b2.cell (p := ⟨b, off + i * 5, none⟩) (Nat.lt_of_lt_of_le hbl hS.out.tail.gold.size)).trans z0
  replace z1 := (b2.cell (p := ⟨b, off + i * 5 + 1, none⟩) (Nat.lt_of_lt_of_le hbl hS.out.tail.gold.size)).trans z1
  replace z2 := (b2.cell (p := ⟨b, off + i * 5 + 2, none⟩) (Nat.lt_of_lt_of_le hbl hS.out.tail.gold.size)).trans z2
  replace z3 := (b2.cell (p := ⟨b, off + i * 5 + 3, none⟩) (Nat.lt_of_lt_of_le hbl hS.out.tail.gold.size)).trans z3
  replace z4 := (b2.cell (p := ⟨b, off + i * 5 + 4, none⟩) (Nat.lt_of_lt_of_le hbl hS.out.tail.gold.size)).trans z4
  replace hS := Lib.hid (hS.out.below b2)
  clear b2 HW d0 d1 d2 d3
  obtain ⟨_, d0, d1, d2, d3, _⟩ := hS.out.b4
  have hV0 := Lib.hid (show Sep _ [vec 3 1 (.slice none 0 0) 0 [], blk w2.heap.size 42 #[.int .i64 id, .int .i64 txn, .int .i64 mode, .int .i64 want, .int .i64 since], _, _] from (hS.out.alloc #[.int .i64 id, .int .i64 txn, .int .i64 mode, .int .i64 want, .int .i64 since] 42).vec_nil 3 1)
  clear hS
  go_wp2_with fail
  generalize w2.heap.size = qb at *
  clear d0 d1 d2 d3 z0 z1 z2 z3 z4
  go_loopg [7, 8] m (fun gm s7 s8 W => ∃ (k : Nat) (P : List Int) (ap : Option Addr) (cp np : Nat), k ≤ m ∧ gm = m - k ∧ s7 = .slice ap np cp ∧ s8 = .int .i64 k ∧ Hid (P = F k) ∧ Hid (P.length = np) ∧ (np = 0 → ap = none ∧ cp = 0) ∧ Hid (Sep W [vec 3 1 (.slice ap np cp) np (P.map (Value.int .i64)), blk qb 42 #[.int .i64 id, .int .i64 txn, .int .i64 mode, .int .i64 want, .int .i64 since], blk w.heap.size 26 #[.int .i64 t, .int .i64 r, .slice (some ⟨b, off, none⟩) m c, .int .i64 n], old w]))
  case atStart => exact ⟨0, [], none, 0, 0, Nat.zero_le _, rfl, rfl, rfl, Lib.hid hF0.symm, Lib.hid rfl, fun _ => ⟨rfl, rfl⟩, hV0⟩
  case round =>
    clear hV0
    obtain ⟨k, P, ap, cp, np, hk, hgm, rfl, rfl, hP, hPn, hnil, hV⟩ := hrel
    by_cases hlt : k < m
    · obtain ⟨y0, y1, y2, y3, y4⟩ := hz.out k hlt
      have kk : ∀ o, wr.cell? ⟨b, o, none⟩ = w.cell? ⟨b, o, none⟩ := fun o => hV.out.to3.gold.cell (p := ⟨b, o, none⟩) hbl
      rw [← kk] at y0 y1 y2 y3 y4
      clear kk
      have hPl : np ≤ 1000 := by
        have := hfl.out k
        rw [← hP.out, hPn.out] at this
        omega
      have k1 : (0 : Int) ≤ (k : Int) := by omega
      have k2 : (k : Int) < (m : Int) := by omega
      have hms := Lib.hid (show m - (k + 1) < m - k by omega)
      have hV1 := Lib.hid (fun x0 x1 x2 x3 x4 => (hV.out.alloc #[.int .i64 x0, .int .i64 x1, .int .i64 x2, .int .i64 x3, .int .i64 x4] 42).to1)
      obtain ⟨_, d0, d1, d2, d3, _⟩ := hV.out.to2.b4
      by_cases hki : k = i
      · have hst := Lib.hid (hno.out k hlt (by rw [hki, hq.out]; exact hself.out))
        subst hki
        rw [hq.out] at y0 y1 y2 y3 y4
        simp only at y0 y1 y2 y3 y4
        have e1 : ((k : Int) == (k : Int)) = true := by simp
        replace hV1 := Lib.hid (hV1.out id txn mode want since)
        go_wp2_with fail
        go_roundg (m - (k + 1))
        case measure => first | exact hms.out | (rw [hgm]; exact hms.out)
        case rel => exact ⟨k + 1, P, ap, cp, np, by omega, rfl, rfl, by go_num, Lib.hid (hP.out.trans hst.out.symm), hPn, hnil, Lib.hid hV1.out.drop1⟩
      · have hk3 : ((k : Int) == (i : Int)) = false := by
          rw [beq_eq_false_iff_ne]
          omega
        have hk4 : ¬ (k : Int) = (i : Int) := by omega
        have hbo := hbq.out (l.getD k default) (hne.out k hlt hki)
        have hye := hyes.out k hlt
        have hnn := hno.out k hlt
        generalize l.getD k default = o at *
        obtain ⟨oid, otxn, omode, owant, osince⟩ := o
        simp only at y0 y1 y2 y3 y4 hbo hye
        rw [hbo] at hye hnn
        have HHo1 := Lib.hid (fun W => HHo.out ⟨oid, otxn, omode, owant, osince⟩ W)
        have HWo1 := Lib.hid (fun W => HWo.out ⟨oid, otxn, omode, owant, osince⟩ W)
        have HCo1 := Lib.hid (fun W => HCo.out omode want W)
        simp only at HHo1 HWo1
        replace hV1 := Lib.hid (hV1.out oid otxn omode owant osince)
        rw [← hP.out] at hye hnn
        replace hye := Lib.hid hye
        replace hnn := Lib.hid hnn
        clear hbo hV
        replace HHq := Lib.hid HHq.out
        replace hV1 := Lib.hid (show Sep _ [vec 3 1 (.slice ap np cp) np (P.map (Value.int .i64)), blk _ 42 #[.int .i64 oid, .int .i64 otxn, .int .i64 omode, .int .i64 owant, .int .i64 osince], blk qb 42 #[.int .i64 id, .int .i64 txn, .int .i64 mode, .int .i64 want, .int .i64 since], _, _] from hV1.out)
        obtain ⟨_, p0, p1, p2, p3, p4, _⟩ := hV1.out.to1.b5
        obtain ⟨_, q0, q1, q2, q3, q4, _⟩ := hV1.out.to2.b5
        cases h1 : (omode != 0) with
        | true =>
          rw [h1] at HHo1
          cases h2 : comB omode want with
          | true =>
            rw [h2] at HCo1
            cases h3 : decide (0 < osince) with
            | true =>
              rw [h3] at HWo1
              cases h4 : (mode != 0) with
              | true =>
                rw [h4] at HHq
                cases h5 : decide (osince < since) with
                | true =>
                  replace hye := Lib.hid (hye.out (by simp only [h1, h2, h3, h4, h5]; simp))
                  clear hnn
                  go_wp2_with fail
                  refine (HHo1.out _).mono ?_
                  rintro e wn ⟨rfl, bn⟩
                  replace hV1 := Lib.hid (hV1.out.below bn)
                  clear bn p0 p1 p2 p3 p4 q0 q1 q2 q3 q4
                  obtain ⟨_, p0, p1, p2, p3, p4, _⟩ := hV1.out.to1.b5
                  obtain ⟨_, q0, q1, q2, q3, q4, _⟩ := hV1.out.to2.b5
                  go_wp2_with fail
                  refine (HCo1.out _).mono ?_
                  rintro e wn ⟨rfl, bn⟩
                  replace hV1 := Lib.hid (hV1.out.below bn)
                  clear bn p0 p1 p2 p3 p4 q0 q1 q2 q3 q4
                  obtain ⟨_, p0, p1, p2, p3, p4, _⟩ := hV1.out.to1.b5
                  obtain ⟨_, q0, q1, q2, q3, q4, _⟩ := hV1.out.to2.b5
                  go_wp2_with fail
                  refine (HHo1.out _).mono ?_
                  rintro e wn ⟨rfl, bn⟩
                  replace hV1 := Lib.hid (hV1.out.below bn)
                  clear bn p0 p1 p2 p3 p4 q0 q1 q2 q3 q4
                  obtain ⟨_, p0, p1, p2, p3, p4, _⟩ := hV1.out.to1.b5
                  obtain ⟨_, q0, q1, q2, q3, q4, _⟩ := hV1.out.to2.b5
                  go_wp2_with fail
                  refine (HWo1.out _).mono ?_
                  rintro e wn ⟨rfl, bn⟩
                  replace hV1 := Lib.hid (hV1.out.below bn)
                  clear bn p0 p1 p2 p3 p4 q0 q1 q2 q3 q4
                  obtain ⟨_, p0, p1, p2, p3, p4, _⟩ := hV1.out.to1.b5
                  obtain ⟨_, q0, q1, q2, q3, q4, _⟩ := hV1.out.to2.b5
                  go_wp2_with fail
                  refine (HHq.out _).mono ?_
                  rintro e wn ⟨rfl, bn⟩
                  replace hV1 := Lib.hid (hV1.out.below bn)
                  clear bn p0 p1 p2 p3 p4 q0 q1 q2 q3 q4
                  obtain ⟨_, p0, p1, p2, p3, p4, _⟩ := hV1.out.to1.b5
                  obtain ⟨_, q0, q1, q2, q3, q4, _⟩ := hV1.out.to2.b5
                  go_wp2_with fail
                  refine (HHq.out _).mono ?_
                  rintro e wn ⟨rfl, bn⟩
                  replace hV1 := Lib.hid (hV1.out.below bn)
                  clear bn p0 p1 p2 p3 p4 q0 q1 q2 q3 q4
                  obtain ⟨_, p0, p1, p2, p3, p4, _⟩ := hV1.out.to1.b5
                  obtain ⟨_, q0, q1, q2, q3, q4, _⟩ := hV1.out.to2.b5
                  go_wp2_with fail
                  refine (HPut.out ap np cp P otxn _ _ hV1.out hPn.out (by omega) hnil).mono ?_
                  rintro e w9 ⟨pa, pc, rfl, hV2, hpos⟩
                  replace hV2 := Lib.hid hV2
                  clear hV1 p0 p1 p2 p3 p4 q0 q1 q2 q3 q4
                  generalize hG : putI P otxn = P2 at *
                  clear hG
                  obtain ⟨np2, hnp2⟩ : ∃ np2, P2.length = np2 := ⟨_, rfl⟩
                  rw [hnp2] at hV2 hpos
                  simp only [hnp2]
                  go_wp2_with fail
                  go_roundg (m - (k + 1))
                  case measure => first | exact hms.out | (rw [hgm]; exact hms.out)
                  case rel => exact ⟨k + 1, P2, pa, pc, np2, by omega, rfl, rfl, by go_num, Lib.hid hye.out.symm, Lib.hid hnp2, fun h => absurd h (by omega), Lib.hid hV2.out.drop1⟩
                | false =>
                  replace hnn := Lib.hid (hnn.out (by simp only [h1, h2, h3, h4, h5]; simp))
                  clear hye
                  go_wp2_with fail
                  refine (HHo1.out _).mono ?_
                  rintro e wn ⟨rfl, bn⟩
                  replace hV1 := Lib.hid (hV1.out.below bn)
                  clear bn p0 p1 p2 p3 p4 q0 q1 q2 q3 q4
                  obtain ⟨_, p0, p1, p2, p3, p4, _⟩ := hV1.out.to1.b5
                  obtain ⟨_, q0, q1, q2, q3, q4, _⟩ := hV1.out.to2.b5
                  go_wp2_with fail
                  refine (HCo1.out _).mono ?_
                  rintro e wn ⟨rfl, bn⟩
                  replace hV1 := Lib.hid (hV1.out.below bn)
                  clear bn p0 p1 p2 p3 p4 q0 q1 q2 q3 q4
                  obtain ⟨_, p0, p1, p2, p3, p4, _⟩ := hV1.out.to1.b5
                  obtain ⟨_, q0, q1, q2, q3, q4, _⟩ := hV1.out.to2.b5
                  go_wp2_with fail
                  refine (HHo1.out _).mono ?_
                  rintro e wn ⟨rfl, bn⟩
                  replace hV1 := Lib.hid (hV1.out.below bn)
                  clear bn p0 p1 p2 p3 p4 q0 q1 q2 q3 q4
                  obtain ⟨_, p0, p1, p2, p3, p4, _⟩ := hV1.out.to1.b5
                  obtain ⟨_, q0, q1, q2, q3, q4, _⟩ := hV1.out.to2.b5
                  go_wp2_with fail
                  refine (HWo1.out _).mono ?_
                  rintro e wn ⟨rfl, bn⟩
                  replace hV1 := Lib.hid (hV1.out.below bn)
                  clear bn p0 p1 p2 p3 p4 q0 q1 q2 q3 q4
                  obtain ⟨_, p0, p1, p2, p3, p4, _⟩ := hV1.out.to1.b5
                  obtain ⟨_, q0, q1, q2, q3, q4, _⟩ := hV1.out.to2.b5
                  go_wp2_with fail
                  refine (HHq.out _).mono ?_
                  rintro e wn ⟨rfl, bn⟩
                  replace hV1 := Lib.hid (hV1.out.below bn)
                  clear bn p0 p1 p2 p3 p4 q0 q1 q2 q3 q4
                  obtain ⟨_, p0, p1, p2, p3, p4, _⟩ := hV1.out.to1.b5
                  obtain ⟨_, q0, q1, q2, q3, q4, _⟩ := hV1.out.to2.b5
                  go_wp2_with fail
                  refine (HHq.out _).mono ?_
                  rintro e wn ⟨rfl, bn⟩
                  replace hV1 := Lib.hid (hV1.out.below bn)
                  clear bn p0 p1 p2 p3 p4 q0 q1 q2 q3 q4
                  obtain ⟨_, p0, p1, p2, p3, p4, _⟩ := hV1.out.to1.b5
                  obtain ⟨_, q0, q1, q2, q3, q4, _⟩ := hV1.out.to2.b5
                  go_wp2_with fail
                  go_roundg (m - (k + 1))
                  case measure => first | exact hms.out | (rw [hgm]; exact hms.out)
                  case rel => exact ⟨k + 1, P, ap, cp, np, by omega, rfl, rfl, by go_num, Lib.hid hnn.out.symm, hPn, hnil, Lib.hid hV1.out.drop1⟩
              | false =>
                rw [h4] at HHq
                replace hye := Lib.hid (hye.out (by simp only [h1, h2, h3, h4]; simp))
                clear hnn
                go_wp2_with fail
                refine (HHo1.out _).mono ?_
                rintro e wn ⟨rfl, bn⟩
                replace hV1 := Lib.hid (hV1.out.below bn)
                clear bn p0 p1 p2 p3 p4 q0 q1 q2 q3 q4
                obtain ⟨_, p0, p1, p2, p3, p4, _⟩ := hV1.out.to1.b5
                obtain ⟨_, q0, q1, q2, q3, q4, _⟩ := hV1.out.to2.b5
                go_wp2_with fail
                refine (HCo1.out _).mono ?_
                rintro e wn ⟨rfl, bn⟩
                replace hV1 := Lib.hid (hV1.out.below bn)
                clear bn p0 p1 p2 p3 p4 q0 q1 q2 q3 q4
                obtain ⟨_, p0, p1, p2, p3, p4, _⟩ := hV1.out.to1.b5
                obtain ⟨_, q0, q1, q2, q3, q4, _⟩ := hV1.out.to2.b5
                go_wp2_with fail
                refine (HHo1.out _).mono ?_
                rintro e wn ⟨rfl, bn⟩
                replace hV1 := Lib.hid (hV1.out.below bn)
                clear bn p0 p1 p2 p3 p4 q0 q1 q2 q3 q4
                obtain ⟨_, p0, p1, p2, p3, p4, _⟩ := hV1.out.to1.b5
                obtain ⟨_, q0, q1, q2, q3, q4, _⟩ := hV1.out.to2.b5
                go_wp2_with fail
                refine (HWo1.out _).mono ?_
                rintro e wn ⟨rfl, bn⟩
                replace hV1 := Lib.hid (hV1.out.below bn)
                clear bn p0 p1 p2 p3 p4 q0 q1 q2 q3 q4
                obtain ⟨_, p0, p1, p2, p3, p4, _⟩ := hV1.out.to1.b5
                obtain ⟨_, q0, q1, q2, q3, q4, _⟩ := hV1.out.to2.b5
                go_wp2_with fail
                refine (HHq.out _).mono ?_
                rintro e wn ⟨rfl, bn⟩
                replace hV1 := Lib.hid (hV1.out.below bn)
                clear bn p0 p1 p2 p3 p4 q0 q1 q2 q3 q4
                obtain ⟨_, p0, p1, p2, p3, p4, _⟩ := hV1.out.to1.b5
                obtain ⟨_, q0, q1, q2, q3, q4, _⟩ := hV1.out.to2.b5
                go_wp2_with fail
                refine (HHq.out _).mono ?_
                rintro e wn ⟨rfl, bn⟩
                replace hV1 := Lib.hid (hV1.out.below bn)
                clear bn p0 p1 p2 p3 p4 q0 q1 q2 q3 q4
                obtain ⟨_, p0, p1, p2, p3, p4, _⟩ := hV1.out.to1.b5
                obtain ⟨_, q0, q1, q2, q3, q4, _⟩ := hV1.out.to2.b5
                go_wp2_with fail
                refine (HHo1.out _).mono ?_
                rintro e wn ⟨rfl, bn⟩
                replace hV1 := Lib.hid (hV1.out.below bn)
                clear bn p0 p1 p2 p3 p4 q0 q1 q2 q3 q4
                obtain ⟨_, p0, p1, p2, p3, p4, _⟩ := hV1.out.to1.b5
                obtain ⟨_, q0, q1, q2, q3, q4, _⟩ := hV1.out.to2.b5
                go_wp2_with fail
                refine (HPut.out ap np cp P otxn _ _ hV1.out hPn.out (by omega) hnil).mono ?_
                rintro e w9 ⟨pa, pc, rfl, hV2, hpos⟩
                replace hV2 := Lib.hid hV2
                clear hV1 p0 p1 p2 p3 p4 q0 q1 q2 q3 q4
                generalize hG : putI P otxn = P2 at *
                clear hG
                obtain ⟨np2, hnp2⟩ : ∃ np2, P2.length = np2 := ⟨_, rfl⟩
                rw [hnp2] at hV2 hpos
                simp only [hnp2]
                go_wp2_with fail
                go_roundg (m - (k + 1))
                case measure => first | exact hms.out | (rw [hgm]; exact hms.out)
                case rel => exact ⟨k + 1, P2, pa, pc, np2, by omega, rfl, rfl, by go_num, Lib.hid hye.out.symm, Lib.hid hnp2, fun h => absurd h (by omega), Lib.hid hV2.out.drop1⟩
            | false =>
              rw [h3] at HWo1
              cases h4 : (mode != 0) with
              | true =>
                rw [h4] at HHq
                replace hnn := Lib.hid (hnn.out (by simp only [h1, h2, h3, h4]; simp))
                clear hye
                go_wp2_with fail
                refine (HHo1.out _).mono ?_
                rintro e wn ⟨rfl, bn⟩
                replace hV1 := Lib.hid (hV1.out.below bn)
                clear bn p0 p1 p2 p3 p4 q0 q1 q2 q3 q4
                obtain ⟨_, p0, p1, p2, p3, p4, _⟩ := hV1.out.to1.b5
                obtain ⟨_, q0, q1, q2, q3, q4, _⟩ := hV1.out.to2.b5
                go_wp2_with fail
                refine (HCo1.out _).mono ?_
                rintro e wn ⟨rfl, bn⟩
                replace hV1 := Lib.hid (hV1.out.below bn)
                clear bn p0 p1 p2 p3 p4 q0 q1 q2 q3 q4
                obtain ⟨_, p0, p1, p2, p3, p4, _⟩ := hV1.out.to1.b5
                obtain ⟨_, q0, q1, q2, q3, q4, _⟩ := hV1.out.to2.b5
                go_wp2_with fail
                refine (HHo1.out _).mono ?_
                rintro e wn ⟨rfl, bn⟩
                replace hV1 := Lib.hid (hV1.out.below bn)
                clear bn p0 p1 p2 p3 p4 q0 q1 q2 q3 q4
                obtain ⟨_, p0, p1, p2, p3, p4, _⟩ := hV1.out.to1.b5
                obtain ⟨_, q0, q1, q2, q3, q4, _⟩ := hV1.out.to2.b5
                go_wp2_with fail
                refine (HWo1.out _).mono ?_
                rintro e wn ⟨rfl, bn⟩
                replace hV1 := Lib.hid (hV1.out.below bn)
                clear bn p0 p1 p2 p3 p4 q0 q1 q2 q3 q4
                obtain ⟨_, p0, p1, p2, p3, p4, _⟩ := hV1.out.to1.b5
                obtain ⟨_, q0, q1, q2, q3, q4, _⟩ := hV1.out.to2.b5
                go_wp2_with fail
                refine (HHq.out _).mono ?_
                rintro e wn ⟨rfl, bn⟩
                replace hV1 := Lib.hid (hV1.out.below bn)
                clear bn p0 p1 p2 p3 p4 q0 q1 q2 q3 q4
                obtain ⟨_, p0, p1, p2, p3, p4, _⟩ := hV1.out.to1.b5
                obtain ⟨_, q0, q1, q2, q3, q4, _⟩ := hV1.out.to2.b5
                go_wp2_with fail
                go_roundg (m - (k + 1))
                case measure => first | exact hms.out | (rw [hgm]; exact hms.out)
                case rel => exact ⟨k + 1, P, ap, cp, np, by omega, rfl, rfl, by go_num, Lib.hid hnn.out.symm, hPn, hnil, Lib.hid hV1.out.drop1⟩
              | false =>
                rw [h4] at HHq
                replace hnn := Lib.hid (hnn.out (by simp only [h1, h2, h3, h4]; simp))
                clear hye
                go_wp2_with fail
                refine (HHo1.out _).mono ?_
                rintro e wn ⟨rfl, bn⟩
                replace hV1 := Lib.hid (hV1.out.below bn)
                clear bn p0 p1 p2 p3 p4 q0 q1 q2 q3 q4
                obtain ⟨_, p0, p1, p2, p3, p4, _⟩ := hV1.out.to1.b5
                obtain ⟨_, q0, q1, q2, q3, q4, _⟩ := hV1.out.to2.b5
                go_wp2_with fail
                refine (HCo1.out _).mono ?_
                rintro e wn ⟨rfl, bn⟩
                replace hV1 := Lib.hid (hV1.out.below bn)
                clear bn p0 p1 p2 p3 p4 q0 q1 q2 q3 q4
                obtain ⟨_, p0, p1, p2, p3, p4, _⟩ := hV1.out.to1.b5
                obtain ⟨_, q0, q1, q2, q3, q4, _⟩ := hV1.out.to2.b5
                go_wp2_with fail
                refine (HHo1.out _).mono ?_
                rintro e wn ⟨rfl, bn⟩
                replace hV1 := Lib.hid (hV1.out.below bn)
                clear bn p0 p1 p2 p3 p4 q0 q1 q2 q3 q4
                obtain ⟨_, p0, p1, p2, p3, p4, _⟩ := hV1.out.to1.b5
                obtain ⟨_, q0, q1, q2, q3, q4, _⟩ := hV1.out.to2.b5
                go_wp2_with fail
                refine (HWo1.out _).mono ?_
                rintro e wn ⟨rfl, bn⟩
                replace hV1 := Lib.hid (hV1.out.below bn)
                clear bn p0 p1 p2 p3 p4 q0 q1 q2 q3 q4
                obtain ⟨_, p0, p1, p2, p3, p4, _⟩ := hV1.out.to1.b5
                obtain ⟨_, q0, q1, q2, q3, q4, _⟩ := hV1.out.to2.b5
                go_wp2_with fail
                refine (HHq.out _).mono ?_
                rintro e wn ⟨rfl, bn⟩
                replace hV1 := Lib.hid (hV1.out.below bn)
                clear bn p0 p1 p2 p3 p4 q0 q1 q2 q3 q4
                obtain ⟨_, p0, p1, p2, p3, p4, _⟩ := hV1.out.to1.b5
                obtain ⟨_, q0, q1, q2, q3, q4, _⟩ := hV1.out.to2.b5
                go_wp2_with fail
                refine (HHo1.out _).mono ?_
                rintro e wn ⟨rfl, bn⟩
                replace hV1 := Lib.hid (hV1.out.below bn)
                clear bn p0 p1 p2 p3 p4 q0 q1 q2 q3 q4
                obtain ⟨_, p0, p1, p2, p3, p4, _⟩ := hV1.out.to1.b5
                obtain ⟨_, q0, q1, q2, q3, q4, _⟩ := hV1.out.to2.b5
                go_wp2_with fail
                go_roundg (m - (k + 1))
                case measure => first | exact hms.out | (rw [hgm]; exact hms.out)
                case rel => exact ⟨k + 1, P, ap, cp, np, by omega, rfl, rfl, by go_num, Lib.hid hnn.out.symm, hPn, hnil, Lib.hid hV1.out.drop1⟩
          | false =>
            rw [h2] at HCo1
            cases h3 : decide (0 < osince) with
            | true =>
              rw [h3] at HWo1
              cases h4 : (mode != 0) with
              | true =>
                rw [h4] at HHq
                cases h5 : decide (osince < since) with
                | true =>
                  replace hye := Lib.hid (hye.out (by simp only [h1, h2, h3, h4, h5]; simp))
                  clear hnn
                  go_wp2_with fail
                  refine (HHo1.out _).mono ?_
                  rintro e wn ⟨rfl, bn⟩
                  replace hV1 := Lib.hid (hV1.out.below bn)
                  clear bn p0 p1 p2 p3 p4 q0 q1 q2 q3 q4
                  obtain ⟨_, p0, p1, p2, p3, p4, _⟩ := hV1.out.to1.b5
                  obtain ⟨_, q0, q1, q2, q3, q4, _⟩ := hV1.out.to2.b5
                  go_wp2_with fail
                  refine (HCo1.out _).mono ?_
                  rintro e wn ⟨rfl, bn⟩
                  replace hV1 := Lib.hid (hV1.out.below bn)
                  clear bn p0 p1 p2 p3 p4 q0 q1 q2 q3 q4
                  obtain ⟨_, p0, p1, p2, p3, p4, _⟩ := hV1.out.to1.b5
                  obtain ⟨_, q0, q1, q2, q3, q4, _⟩ := hV1.out.to2.b5
                  go_wp2_with fail
                  refine (HHo1.out _).mono ?_
                  rintro e wn ⟨rfl, bn⟩
                  replace hV1 := Lib.hid (hV1.out.below bn)
                  clear bn p0 p1 p2 p3 p4 q0 q1 q2 q3 q4
                  obtain ⟨_, p0, p1, p2, p3, p4, _⟩ := hV1.out.to1.b5
                  obtain ⟨_, q0, q1, q2, q3, q4, _⟩ := hV1.out.to2.b5
                  go_wp2_with fail
                  refine (HWo1.out _).mono ?_
                  rintro e wn ⟨rfl, bn⟩
                  replace hV1 := Lib.hid (hV1.out.below bn)
                  clear bn p0 p1 p2 p3 p4 q0 q1 q2 q3 q4
                  obtain ⟨_, p0, p1, p2, p3, p4, _⟩ := hV1.out.to1.b5
                  obtain ⟨_, q0, q1, q2, q3, q4, _⟩ := hV1.out.to2.b5
                  go_wp2_with fail
                  refine (HHq.out _).mono ?_
                  rintro e wn ⟨rfl, bn⟩
                  replace hV1 := Lib.hid (hV1.out.below bn)
                  clear bn p0 p1 p2 p3 p4 q0 q1 q2 q3 q4
                  obtain ⟨_, p0, p1, p2, p3, p4, _⟩ := hV1.out.to1.b5
                  obtain ⟨_, q0, q1, q2, q3, q4, _⟩ := hV1.out.to2.b5
                  go_wp2_with fail
                  refine (HHq.out _).mono ?_
                  rintro e wn ⟨rfl, bn⟩
                  replace hV1 := Lib.hid (hV1.out.below bn)
                  clear bn p0 p1 p2 p3 p4 q0 q1 q2 q3 q4
                  obtain ⟨_, p0, p1, p2, p3, p4, _⟩ := hV1.out.to1.b5
                  obtain ⟨_, q0, q1, q2, q3, q4, _⟩ := hV1.out.to2.b5
                  go_wp2_with fail
                  refine (HPut.out ap np cp P otxn _ _ hV1.out hPn.out (by omega) hnil).mono ?_
                  rintro e w9 ⟨pa, pc, rfl, hV2, hpos⟩
                  replace hV2 := Lib.hid hV2
                  clear hV1 p0 p1 p2 p3 p4 q0 q1 q2 q3 q4
                  generalize hG : putI P otxn = P2 at *
                  clear hG
                  obtain ⟨np2, hnp2⟩ : ∃ np2, P2.length = np2 := ⟨_, rfl⟩
                  rw [hnp2] at hV2 hpos
                  simp only [hnp2]
                  go_wp2_with fail
                  go_roundg (m - (k + 1))
                  case measure => first | exact hms.out | (rw [hgm]; exact hms.out)
                  case rel => exact ⟨k + 1, P2, pa, pc, np2, by omega, rfl, rfl, by go_num, Lib.hid hye.out.symm, Lib.hid hnp2, fun h => absurd h (by omega), Lib.hid hV2.out.drop1⟩
                | false =>
                  replace hye := Lib.hid (hye.out (by simp only [h1, h2, h3, h4, h5]; simp))
                  clear hnn
                  go_wp2_with fail
                  refine (HHo1.out _).mono ?_
                  rintro e wn ⟨rfl, bn⟩
                  replace hV1 := Lib.hid (hV1.out.below bn)
                  clear bn p0 p1 p2 p3 p4 q0 q1 q2 q3 q4
                  obtain ⟨_, p0, p1, p2, p3, p4, _⟩ := hV1.out.to1.b5
                  obtain ⟨_, q0, q1, q2, q3, q4, _⟩ := hV1.out.to2.b5
                  go_wp2_with fail
                  refine (HCo1.out _).mono ?_
                  rintro e wn ⟨rfl, bn⟩
                  replace hV1 := Lib.hid (hV1.out.below bn)
                  clear bn p0 p1 p2 p3 p4 q0 q1 q2 q3 q4
                  obtain ⟨_, p0, p1, p2, p3, p4, _⟩ := hV1.out.to1.b5
                  obtain ⟨_, q0, q1, q2, q3, q4, _⟩ := hV1.out.to2.b5
                  go_wp2_with fail
                  refine (HHo1.out _).mono ?_
                  rintro e wn ⟨rfl, bn⟩
                  replace hV1 := Lib.hid (hV1.out.below bn)
                  clear bn p0 p1 p2 p3 p4 q0 q1 q2 q3 q4
                  obtain ⟨_, p0, p1, p2, p3, p4, _⟩ := hV1.out.to1.b5
                  obtain ⟨_, q0, q1, q2, q3, q4, _⟩ := hV1.out.to2.b5
                  go_wp2_with fail
                  refine (HWo1.out _).mono ?_
                  rintro e wn ⟨rfl, bn⟩
                  replace hV1 := Lib.hid (hV1.out.below bn)
                  clear bn p0 p1 p2 p3 p4 q0 q1 q2 q3 q4
                  obtain ⟨_, p0, p1, p2, p3, p4, _⟩ := hV1.out.to1.b5
                  obtain ⟨_, q0, q1, q2, q3, q4, _⟩ := hV1.out.to2.b5
                  go_wp2_with fail
                  refine (HHq.out _).mono ?_
                  rintro e wn ⟨rfl, bn⟩
                  replace hV1 := Lib.hid (hV1.out.below bn)
                  clear bn p0 p1 p2 p3 p4 q0 q1 q2 q3 q4
                  obtain ⟨_, p0, p1, p2, p3, p4, _⟩ := hV1.out.to1.b5
                  obtain ⟨_, q0, q1, q2, q3, q4, _⟩ := hV1.out.to2.b5
                  go_wp2_with fail
                  refine (HHq.out _).mono ?_
                  rintro e wn ⟨rfl, bn⟩
                  replace hV1 := Lib.hid (hV1.out.below bn)
                  clear bn p0 p1 p2 p3 p4 q0 q1 q2 q3 q4
                  obtain ⟨_, p0, p1, p2, p3, p4, _⟩ := hV1.out.to1.b5
                  obtain ⟨_, q0, q1, q2, q3, q4, _⟩ := hV1.out.to2.b5
                  go_wp2_with fail
                  refine (HPut.out ap np cp P otxn _ _ hV1.out hPn.out (by omega) hnil).mono ?_
                  rintro e w9 ⟨pa, pc, rfl, hV2, hpos⟩
                  replace hV2 := Lib.hid hV2
                  clear hV1 p0 p1 p2 p3 p4 q0 q1 q2 q3 q4
                  generalize hG : putI P otxn = P2 at *
                  clear hG
                  obtain ⟨np2, hnp2⟩ : ∃ np2, P2.length = np2 := ⟨_, rfl⟩
                  rw [hnp2] at hV2 hpos
                  simp only [hnp2]
                  go_wp2_with fail
                  go_roundg (m - (k + 1))
                  case measure => first | exact hms.out | (rw [hgm]; exact hms.out)
                  case rel => exact ⟨k + 1, P2, pa, pc, np2, by omega, rfl, rfl, by go_num, Lib.hid hye.out.symm, Lib.hid hnp2, fun h => absurd h (by omega), Lib.hid hV2.out.drop1⟩
              | false =>
                rw [h4] at HHq
                replace hye := Lib.hid (hye.out (by simp only [h1, h2, h3, h4]; simp))
                clear hnn
                go_wp2_with fail
                refine (HHo1.out _).mono ?_
                rintro e wn ⟨rfl, bn⟩
                replace hV1 := Lib.hid (hV1.out.below bn)
                clear bn p0 p1 p2 p3 p4 q0 q1 q2 q3 q4
                obtain ⟨_, p0, p1, p2, p3, p4, _⟩ := hV1.out.to1.b5
                obtain ⟨_, q0, q1, q2, q3, q4, _⟩ := hV1.out.to2.b5
                go_wp2_with fail
                refine (HCo1.out _).mono ?_
                rintro e wn ⟨rfl, bn⟩
                replace hV1 := Lib.hid (hV1.out.below bn)
                clear bn p0 p1 p2 p3 p4 q0 q1 q2 q3 q4
                obtain ⟨_, p0, p1, p2, p3, p4, _⟩ := hV1.out.to1.b5
                obtain ⟨_, q0, q1, q2, q3, q4, _⟩ := hV1.out.to2.b5
                go_wp2_with fail
                refine (HHo1.out _).mono ?_
                rintro e wn ⟨rfl, bn⟩
                replace hV1 := Lib.hid (hV1.out.below bn)
                clear bn p0 p1 p2 p3 p4 q0 q1 q2 q3 q4
                obtain ⟨_, p0, p1, p2, p3, p4, _⟩ := hV1.out.to1.b5
                obtain ⟨_, q0, q1, q2, q3, q4, _⟩ := hV1.out.to2.b5
                go_wp2_with fail
                refine (HWo1.out _).mono ?_
                rintro e wn ⟨rfl, bn⟩
                replace hV1 := Lib.hid (hV1.out.below bn)
                clear bn p0 p1 p2 p3 p4 q0 q1 q2 q3 q4
                obtain ⟨_, p0, p1, p2, p3, p4, _⟩ := hV1.out.to1.b5
                obtain ⟨_, q0, q1, q2, q3, q4, _⟩ := hV1.out.to2.b5
                go_wp2_with fail
                refine (HHq.out _).mono ?_
                rintro e wn ⟨rfl, bn⟩
                replace hV1 := Lib.hid (hV1.out.below bn)
                clear bn p0 p1 p2 p3 p4 q0 q1 q2 q3 q4
                obtain ⟨_, p0, p1, p2, p3, p4, _⟩ := hV1.out.to1.b5
                obtain ⟨_, q0, q1, q2, q3, q4, _⟩ := hV1.out.to2.b5
                go_wp2_with fail
                refine (HHq.out _).mono ?_
                rintro e wn ⟨rfl, bn⟩
                replace hV1 := Lib.hid (hV1.out.below bn)
                clear bn p0 p1 p2 p3 p4 q0 q1 q2 q3 q4
                obtain ⟨_, p0, p1, p2, p3, p4, _⟩ := hV1.out.to1.b5
                obtain ⟨_, q0, q1, q2, q3, q4, _⟩ := hV1.out.to2.b5
                go_wp2_with fail
                refine (HHo1.out _).mono ?_
                rintro e wn ⟨rfl, bn⟩
                replace hV1 := Lib.hid (hV1.out.below bn)
                clear bn p0 p1 p2 p3 p4 q0 q1 q2 q3 q4
                obtain ⟨_, p0, p1, p2, p3, p4, _⟩ := hV1.out.to1.b5
                obtain ⟨_, q0, q1, q2, q3, q4, _⟩ := hV1.out.to2.b5
                go_wp2_with fail
                refine (HPut.out ap np cp P otxn _ _ hV1.out hPn.out (by omega) hnil).mono ?_
                rintro e w9 ⟨pa, pc, rfl, hV2, hpos⟩
                replace hV2 := Lib.hid hV2
                clear hV1 p0 p1 p2 p3 p4 q0 q1 q2 q3 q4
                generalize hG : putI P otxn = P2 at *
                clear hG
                obtain ⟨np2, hnp2⟩ : ∃ np2, P2.length = np2 := ⟨_, rfl⟩
                rw [hnp2] at hV2 hpos
                simp only [hnp2]
                go_wp2_with fail
                go_roundg (m - (k + 1))
                case measure => first | exact hms.out | (rw [hgm]; exact hms.out)
                case rel => exact ⟨k + 1, P2, pa, pc, np2, by omega, rfl, rfl, by go_num, Lib.hid hye.out.symm, Lib.hid hnp2, fun h => absurd h (by omega), Lib.hid hV2.out.drop1⟩
            | false =>
              rw [h3] at HWo1
              cases h4 : (mode != 0) with
              | true =>
                rw [h4] at HHq
                replace hye := Lib.hid (hye.out (by simp only [h1, h2, h3, h4]; simp))
                clear hnn
                go_wp2_with fail
                refine (HHo1.out _).mono ?_
                rintro e wn ⟨rfl, bn⟩
                replace hV1 := Lib.hid (hV1.out.below bn)
                clear bn p0 p1 p2 p3 p4 q0 q1 q2 q3 q4
                obtain ⟨_, p0, p1, p2, p3, p4, _⟩ := hV1.out.to1.b5
                obtain ⟨_, q0, q1, q2, q3, q4, _⟩ := hV1.out.to2.b5
                go_wp2_with fail
                refine (HCo1.out _).mono ?_
                rintro e wn ⟨rfl, bn⟩
                replace hV1 := Lib.hid (hV1.out.below bn)
                clear bn p0 p1 p2 p3 p4 q0 q1 q2 q3 q4
                obtain ⟨_, p0, p1, p2, p3, p4, _⟩ := hV1.out.to1.b5
                obtain ⟨_, q0, q1, q2, q3, q4, _⟩ := hV1.out.to2.b5
                go_wp2_with fail
                refine (HHo1.out _).mono ?_
                rintro e wn ⟨rfl, bn⟩
                replace hV1 := Lib.hid (hV1.out.below bn)
                clear bn p0 p1 p2 p3 p4 q0 q1 q2 q3 q4
                obtain ⟨_, p0, p1, p2, p3, p4, _⟩ := hV1.out.to1.b5
                obtain ⟨_, q0, q1, q2, q3, q4, _⟩ := hV1.out.to2.b5
                go_wp2_with fail
                refine (HWo1.out _).mono ?_
                rintro e wn ⟨rfl, bn⟩
                replace hV1 := Lib.hid (hV1.out.below bn)
                clear bn p0 p1 p2 p3 p4 q0 q1 q2 q3 q4
                obtain ⟨_, p0, p1, p2, p3, p4, _⟩ := hV1.out.to1.b5
                obtain ⟨_, q0, q1, q2, q3, q4, _⟩ := hV1.out.to2.b5
                go_wp2_with fail
                refine (HHq.out _).mono ?_
                rintro e wn ⟨rfl, bn⟩
                replace hV1 := Lib.hid (hV1.out.below bn)
                clear bn p0 p1 p2 p3 p4 q0 q1 q2 q3 q4
                obtain ⟨_, p0, p1, p2, p3, p4, _⟩ := hV1.out.to1.b5
                obtain ⟨_, q0, q1, q2, q3, q4, _⟩ := hV1.out.to2.b5
                go_wp2_with fail
                refine (HPut.out ap np cp P otxn _ _ hV1.out hPn.out (by omega) hnil).mono ?_
                rintro e w9 ⟨pa, pc, rfl, hV2, hpos⟩
                replace hV2 := Lib.hid hV2
                clear hV1 p0 p1 p2 p3 p4 q0 q1 q2 q3 q4
                generalize hG : putI P otxn = P2 at *
                clear hG
                obtain ⟨np2, hnp2⟩ : ∃ np2, P2.length = np2 := ⟨_, rfl⟩
                rw [hnp2] at hV2 hpos
                simp only [hnp2]
                go_wp2_with fail
                go_roundg (m - (k + 1))
                case measure => first | exact hms.out | (rw [hgm]; exact hms.out)
                case rel => exact ⟨k + 1, P2, pa, pc, np2, by omega, rfl, rfl, by go_num, Lib.hid hye.out.symm, Lib.hid hnp2, fun h => absurd h (by omega), Lib.hid hV2.out.drop1⟩
              | false =>
                rw [h4] at HHq
                replace hye := Lib.hid (hye.out (by simp only [h1, h2, h3, h4]; simp))
                clear hnn
                go_wp2_with fail
                refine (HHo1.out _).mono ?_
                rintro e wn ⟨rfl, bn⟩
                replace hV1 := Lib.hid (hV1.out.below bn)
                clear bn p0 p1 p2 p3 p4 q0 q1 q2 q3 q4
                obtain ⟨_, p0, p1, p2, p3, p4, _⟩ := hV1.out.to1.b5
                obtain ⟨_, q0, q1, q2, q3, q4, _⟩ := hV1.out.to2.b5
                go_wp2_with fail
                refine (HCo1.out _).mono ?_
                rintro e wn ⟨rfl, bn⟩
                replace hV1 := Lib.hid (hV1.out.below bn)
                clear bn p0 p1 p2 p3 p4 q0 q1 q2 q3 q4
                obtain ⟨_, p0, p1, p2, p3, p4, _⟩ := hV1.out.to1.b5
                obtain ⟨_, q0, q1, q2, q3, q4, _⟩ := hV1.out.to2.b5
                go_wp2_with fail
                refine (HHo1.out _).mono ?_
                rintro e wn ⟨rfl, bn⟩
                replace hV1 := Lib.hid (hV1.out.below bn)
                clear bn p0 p1 p2 p3 p4 q0 q1 q2 q3 q4
                obtain ⟨_, p0, p1, p2, p3, p4, _⟩ := hV1.out.to1.b5
                obtain ⟨_, q0, q1, q2, q3, q4, _⟩ := hV1.out.to2.b5
                go_wp2_with fail
                refine (HWo1.out _).mono ?_
                rintro e wn ⟨rfl, bn⟩
                replace hV1 := Lib.hid (hV1.out.below bn)
                clear bn p0 p1 p2 p3 p4 q0 q1 q2 q3 q4
                obtain ⟨_, p0, p1, p2, p3, p4, _⟩ := hV1.out.to1.b5
                obtain ⟨_, q0, q1, q2, q3, q4, _⟩ := hV1.out.to2.b5
                go_wp2_with fail
                refine (HHq.out _).mono ?_
                rintro e wn ⟨rfl, bn⟩
                replace hV1 := Lib.hid (hV1.out.below bn)
                clear bn p0 p1 p2 p3 p4 q0 q1 q2 q3 q4
                obtain ⟨_, p0, p1, p2, p3, p4, _⟩ := hV1.out.to1.b5
                obtain ⟨_, q0, q1, q2, q3, q4, _⟩ := hV1.out.to2.b5
                go_wp2_with fail
                refine (HHo1.out _).mono ?_
                rintro e wn ⟨rfl, bn⟩
                replace hV1 := Lib.hid (hV1.out.below bn)
                clear bn p0 p1 p2 p3 p4 q0 q1 q2 q3 q4
                obtain ⟨_, p0, p1, p2, p3, p4, _⟩ := hV1.out.to1.b5
                obtain ⟨_, q0, q1, q2, q3, q4, _⟩ := hV1.out.to2.b5
                go_wp2_with fail
                refine (HPut.out ap np cp P otxn _ _ hV1.out hPn.out (by omega) hnil).mono ?_
                rintro e w9 ⟨pa, pc, rfl, hV2, hpos⟩
                replace hV2 := Lib.hid hV2
                clear hV1 p0 p1 p2 p3 p4 q0 q1 q2 q3 q4
                generalize hG : putI P otxn = P2 at *
                clear hG
                obtain ⟨np2, hnp2⟩ : ∃ np2, P2.length = np2 := ⟨_, rfl⟩
                rw [hnp2] at hV2 hpos
                simp only [hnp2]
                go_wp2_with fail
                go_roundg (m - (k + 1))
                case measure => first | exact hms.out | (rw [hgm]; exact hms.out)
                case rel => exact ⟨k + 1, P2, pa, pc, np2, by omega, rfl, rfl, by go_num, Lib.hid hye.out.symm, Lib.hid hnp2, fun h => absurd h (by omega), Lib.hid hV2.out.drop1⟩
        | false =>
          rw [h1] at HHo1
          cases h4 : (mode != 0) with
          | true =>
            rw [h4] at HHq
            replace hnn := Lib.hid (hnn.out (by simp only [h1, h4]; simp))
            clear hye
            go_wp2_with fail
            refine (HHo1.out _).mono ?_
            rintro e wn ⟨rfl, bn⟩
            replace hV1 := Lib.hid (hV1.out.below bn)
            clear bn p0 p1 p2 p3 p4 q0 q1 q2 q3 q4
            obtain ⟨_, p0, p1, p2, p3, p4, _⟩ := hV1.out.to1.b5
            obtain ⟨_, q0, q1, q2, q3, q4, _⟩ := hV1.out.to2.b5
            go_wp2_with fail
            refine (HHo1.out _).mono ?_
            rintro e wn ⟨rfl, bn⟩
            replace hV1 := Lib.hid (hV1.out.below bn)
            clear bn p0 p1 p2 p3 p4 q0 q1 q2 q3 q4
            obtain ⟨_, p0, p1, p2, p3, p4, _⟩ := hV1.out.to1.b5
            obtain ⟨_, q0, q1, q2, q3, q4, _⟩ := hV1.out.to2.b5
            go_wp2_with fail
            refine (HHq.out _).mono ?_
            rintro e wn ⟨rfl, bn⟩
            replace hV1 := Lib.hid (hV1.out.below bn)
            clear bn p0 p1 p2 p3 p4 q0 q1 q2 q3 q4
            obtain ⟨_, p0, p1, p2, p3, p4, _⟩ := hV1.out.to1.b5
            obtain ⟨_, q0, q1, q2, q3, q4, _⟩ := hV1.out.to2.b5
            go_wp2_with fail
            go_roundg (m - (k + 1))
            case measure => first | exact hms.out | (rw [hgm]; exact hms.out)
            case rel => exact ⟨k + 1, P, ap, cp, np, by omega, rfl, rfl, by go_num, Lib.hid hnn.out.symm, hPn, hnil, Lib.hid hV1.out.drop1⟩
          | false =>
            rw [h4] at HHq
            cases h5 : decide (osince < since) with
            | true =>
              replace hye := Lib.hid (hye.out (by simp only [h1, h4, h5]; simp))
              clear hnn
              go_wp2_with fail
              refine (HHo1.out _).mono ?_
              rintro e wn ⟨rfl, bn⟩
              replace hV1 := Lib.hid (hV1.out.below bn)
              clear bn p0 p1 p2 p3 p4 q0 q1 q2 q3 q4
              obtain ⟨_, p0, p1, p2, p3, p4, _⟩ := hV1.out.to1.b5
              obtain ⟨_, q0, q1, q2, q3, q4, _⟩ := hV1.out.to2.b5
              go_wp2_with fail
              refine (HHo1.out _).mono ?_
              rintro e wn ⟨rfl, bn⟩
              replace hV1 := Lib.hid (hV1.out.below bn)
              clear bn p0 p1 p2 p3 p4 q0 q1 q2 q3 q4
              obtain ⟨_, p0, p1, p2, p3, p4, _⟩ := hV1.out.to1.b5
              obtain ⟨_, q0, q1, q2, q3, q4, _⟩ := hV1.out.to2.b5
              go_wp2_with fail
              refine (HHq.out _).mono ?_
              rintro e wn ⟨rfl, bn⟩
              replace hV1 := Lib.hid (hV1.out.below bn)
              clear bn p0 p1 p2 p3 p4 q0 q1 q2 q3 q4
              obtain ⟨_, p0, p1, p2, p3, p4, _⟩ := hV1.out.to1.b5
              obtain ⟨_, q0, q1, q2, q3, q4, _⟩ := hV1.out.to2.b5
              go_wp2_with fail
              refine (HHo1.out _).mono ?_
              rintro e wn ⟨rfl, bn⟩
              replace hV1 := Lib.hid (hV1.out.below bn)
              clear bn p0 p1 p2 p3 p4 q0 q1 q2 q3 q4
              obtain ⟨_, p0, p1, p2, p3, p4, _⟩ := hV1.out.to1.b5
              obtain ⟨_, q0, q1, q2, q3, q4, _⟩ := hV1.out.to2.b5
              go_wp2_with fail
              refine (HPut.out ap np cp P otxn _ _ hV1.out hPn.out (by omega) hnil).mono ?_
              rintro e w9 ⟨pa, pc, rfl, hV2, hpos⟩
              replace hV2 := Lib.hid hV2
              clear hV1 p0 p1 p2 p3 p4 q0 q1 q2 q3 q4
              generalize hG : putI P otxn = P2 at *
              clear hG
              obtain ⟨np2, hnp2⟩ : ∃ np2, P2.length = np2 := ⟨_, rfl⟩
              rw [hnp2] at hV2 hpos
              simp only [hnp2]
              go_wp2_with fail
              go_roundg (m - (k + 1))
              case measure => first | exact hms.out | (rw [hgm]; exact hms.out)
              case rel => exact ⟨k + 1, P2, pa, pc, np2, by omega, rfl, rfl, by go_num, Lib.hid hye.out.symm, Lib.hid hnp2, fun h => absurd h (by omega), Lib.hid hV2.out.drop1⟩
            | false =>
              replace hnn := Lib.hid (hnn.out (by simp only [h1, h4, h5]; simp))
              clear hye
              go_wp2_with fail
              refine (HHo1.out _).mono ?_
              rintro e wn ⟨rfl, bn⟩
              replace hV1 := Lib.hid (hV1.out.below bn)
              clear bn p0 p1 p2 p3 p4 q0 q1 q2 q3 q4
              obtain ⟨_, p0, p1, p2, p3, p4, _⟩ := hV1.out.to1.b5
              obtain ⟨_, q0, q1, q2, q3, q4, _⟩ := hV1.out.to2.b5
              go_wp2_with fail
              refine (HHo1.out _).mono ?_
              rintro e wn ⟨rfl, bn⟩
              replace hV1 := Lib.hid (hV1.out.below bn)
              clear bn p0 p1 p2 p3 p4 q0 q1 q2 q3 q4
              obtain ⟨_, p0, p1, p2, p3, p4, _⟩ := hV1.out.to1.b5
              obtain ⟨_, q0, q1, q2, q3, q4, _⟩ := hV1.out.to2.b5
              go_wp2_with fail
              refine (HHq.out _).mono ?_
              rintro e wn ⟨rfl, bn⟩
              replace hV1 := Lib.hid (hV1.out.below bn)
              clear bn p0 p1 p2 p3 p4 q0 q1 q2 q3 q4
              obtain ⟨_, p0, p1, p2, p3, p4, _⟩ := hV1.out.to1.b5
              obtain ⟨_, q0, q1, q2, q3, q4, _⟩ := hV1.out.to2.b5
              go_wp2_with fail
              refine (HHo1.out _).mono ?_
              rintro e wn ⟨rfl, bn⟩
              replace hV1 := Lib.hid (hV1.out.below bn)
              clear bn p0 p1 p2 p3 p4 q0 q1 q2 q3 q4
              obtain ⟨_, p0, p1, p2, p3, p4, _⟩ := hV1.out.to1.b5
              obtain ⟨_, q0, q1, q2, q3, q4, _⟩ := hV1.out.to2.b5
              go_wp2_with fail
              go_roundg (m - (k + 1))
              case measure => first | exact hms.out | (rw [hgm]; exact hms.out)
              case rel => exact ⟨k + 1, P, ap, cp, np, by omega, rfl, rfl, by go_num, Lib.hid hnn.out.symm, hPn, hnil, Lib.hid hV1.out.drop1⟩
    · obtain rfl : k = m := by omega
      have hfn := (hP.out.trans (by first | exact hall.out rfl | exact hall.out trivial))
      subst hfn
      have hPn2 := hPn.out
      subst hPn2
      obtain ⟨_, d0, d1, d2, d3, _⟩ := hV.out.to2.b4
      go_wp2_with fail
      go_ret
      exact ⟨ap, cp, rfl, hV.out.drop1.drop1⟩
theorem blkR_any (t r n : Int) (v : Value) (l : List Rq) (id0 : Int) (w : World) (hv : RQ w v l) (hl : l.length ≤ 1000) (hD : IdsD l) :
    Calls Tryz.prog 29 #[hval t r v n, .int .i64 id0] w fun e w' => ∃ a c, e = .returned (.slice a (blkV l id0).length c) ∧ Sep w' [vec 3 1 (.slice a (blkV l id0).length c) (blkV l id0).length ((blkV l id0).map (Value.int .i64)), old w] := by
  have nil : ∀ w', Below w.heap.size w w' → Sep w' [vec 3 1 (.slice none 0 0) 0 [], old w] := fun w' hb => ((Sep.start w).below hb).vec_nil _ _
  by_cases hn : plc l id0 < 0
  · have e0 : blkV l id0 = [] := by unfold blkV; rw [if_pos hn]
    rw [e0]
    refine (blkR_none t r n v l id0 w hv hl hn).mono ?_
    rintro e w' ⟨rfl, hb⟩
    exact ⟨none, 0, rfl, nil w' hb⟩
  · obtain ⟨i, hi, hil, _⟩ := plc_spec l id0 hn
    by_cases hs : 0 < (l.getD i default).since
    · have e0 : blkV l id0 = nrm (blkL l (l.getD i default)) := by unfold blkV; rw [if_neg hn, hi, Int.toNat_natCast, if_pos hs]
      rw [e0]
      exact blkR_some t r n v l id0 w hv hl hD i hi hil (decide_eq_true hs)
    · have e0 : blkV l id0 = [] := by unfold blkV; rw [if_neg hn, hi, Int.toNat_natCast, if_neg hs]
      rw [e0]
      refine (blkR_calm t r n v l id0 w hv hl i hi hil (decide_eq_false hs)).mono ?_
      rintro e w' ⟨rfl, hb⟩
      exact ⟨none, 0, rfl, nil w' hb⟩
end Go.Proofs.YtmacpjnkmkaloaaGreat
namespace Go.Proofs.YtmacpjnkmkaloaaGreat
set_option linter.unusedSimpArgs false
set_option linter.unusedVariables false
set_option linter.unnecessarySimpa false
open Go.RowKit
theorem same_true (u v : Value) (xs : List Int) (w : World) (hn : xs.length ≤ 1000) (hu : RI w u xs) (hv : RI w v xs) :
   Calls Tryz.prog 27 #[u, v] w fun e w' => e = .returned (.bool true) ∧ ∃ m, w' = w.drewN m := by
  obtain ⟨a, c, rfl, hr⟩ := hu
  obtain ⟨a', c', rfl, hr'⟩ := hv
  have HR := Lib.hid hr
  have HR' := Lib.hid hr'
  clear hr hr'
  generalize hl : xs.length = n at *
  have hl := Lib.hid hl
  go_enter Tryz.func27, Tryz.ntmps27
  go_wp2
  go_loopw [5] (fun i w1 => ∃ k : Nat, k ≤ n ∧ i = .int .i64 k ∧ ∃ m, w1 = w.drewN m) (fun i _ => n - (intOf i).toNat)
  case atStart => exact ⟨0, Nat.zero_le _, rfl, 0, rfl⟩
  case round =>
    obtain ⟨k, hk, rfl, m, rfl⟩ := hrel
    by_cases hlt : k < n
    · obtain ⟨b, off, rfl, _, hc⟩ := HR.out (by omega)
      obtain ⟨b', off', rfl, _, hc'⟩ := HR'.out (by omega)
      have h1 := hc k hlt
      have h2 := hc' k hlt
      clear hc hc' HR HR'
      generalize xs.getD k 0 = x at *
      go_wp2_with fail
      go_quiet (fail)
      go_wp2_with fail
      go_roundw
      case rel => exact ⟨k+1, by omega, by go_num, _, rfl⟩
      case measure => simp [intOf]; omega
    · go_wp2
      go_ret
      exact ⟨rfl, _, rfl⟩
end Go.Proofs.YtmacpjnkmkaloaaGreat
