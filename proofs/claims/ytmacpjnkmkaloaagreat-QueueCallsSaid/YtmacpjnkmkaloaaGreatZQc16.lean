/-
  Contracts and plain laws that the walk leans on, part 16. No condition.
-/
import Derived.Test.YtmacpjnkmkaloaaGreatZQc15
import Derived.ProofKit
import Derived.OpenShut
import Derived.ShutString
import Derived.ChangeOld
import Derived.ChangeSame
import Derived.Deep.Slices
import Derived.Deep.Fields
import Derived.Lib.SmallJoins
import Derived.Deep.Strs
namespace Go.Proofs.YtmacpjnkmkaloaaGreat
set_option linter.unusedSimpArgs false
set_option linter.unusedVariables false
set_option linter.unnecessarySimpa false
open Go.RowKit
theorem ri_one {w : World} {g : Nat} {x : Int} {t : TypeId} {rs : List Res} (h : Sep w (blk g t #[.int .i64 x] :: rs)) : RI w (.slice (some ⟨g, 0, none⟩) 1 1) [x] :=
  ⟨_, 1, rfl, fun _ => ⟨g, 0, rfl, h.b1.1, fun j hj => by
    obtain rfl : j = 0 := by simpa using hj
    exact h.b1.2.1⟩⟩
theorem RQ.nil (w : World) : RQ w (.slice none 0 0) [] := ⟨none, 0, rfl, Nat.le_refl _, fun _ => rfl, fun h => absurd h (by simp)⟩
set_option maxHeartbeats 2000000 in
set_option maxRecDepth 100000 in
theorem lives_any (w : World) : Calls Tryz.prog 4 #[] w fun e w' => e = .returned (.bool true) ∧ Below w.heap.size w w' := by
  have A1 := Lib.hid (fun W => askP_grant 0 (-1) 0 (.slice none 0 0) [] 0 1 3 W (RQ.nil W) (by simp) (by decide) (by decide) (by decide) (by decide) (by decide))
  go_enter Tryz.func4, Tryz.ntmps4
  go_wp2_with fail
  refine (empty_any _).mono ?_
  rintro e w1 ⟨rfl, q⟩
  have hS := Lib.hid ((Sep.start w).below q)
  clear q
  unfold hval at *
  go_wp2_with fail
  refine (A1.out _).mono ?_
  rintro e w2 ⟨a1, c1, rfl, q⟩
  replace hS := Lib.hid (((q.graft hS.out).alloc #[.int .i64 0, .int .i64 (-1), .slice a1 1 c1, .int .i64 0] 26))
  clear q A1
  have A2 := Lib.hid (fun W hb => askP_wait2 0 (-1) 0 (.slice a1 1 c1) [⟨0, 1, 3, 3, 0⟩] 1 2 6 W (hS.out.to1.vq_rq.below hb) (by simp) (by decide) (by decide) (by decide) (by decide) (by decide) (by decide) (by decide))
  obtain ⟨_, d0, d1, d2, d3, f0, f1, f2, f3⟩ := hS.out.b4
  unfold hval at *
  go_wp2_with fail
  refine (A2.out _ (Below.refl _ _)).mono ?_
  rintro e w3 ⟨a2, c2, rfl, q⟩
  replace hS := Lib.hid (q.graft hS.out)
  clear q A2 d0 d1 d2 d3 f0 f1 f2 f3
  obtain ⟨_, d0, d1, d2, d3, f0, f1, f2, f3⟩ := hS.out.to1.b4
  replace hS := Lib.hid ((((hS.out.to1.set 0 (.int .i64 0)).set 1 (.int .i64 (-1))).set 2 (.slice a2 2 c2)).set 3 (.int .i64 1))
  have A3 := Lib.hid (askP_wait1 0 (-1) 1 (.slice a2 2 c2) [⟨0, 1, 3, 3, 0⟩, ⟨1, 2, 0, 6, 1⟩] 2 3 3 _ hS.out.to1.vq_rq (by simp) (by decide) (by decide) (by decide) (by decide) (by decide) (by decide))
  unfold hval at *
  go_wp2_with fail
  refine A3.out.mono ?_
  rintro e w4 ⟨a3, c3, rfl, q⟩
  replace hS := Lib.hid (q.graft (show Sep _ [blk w2.heap.size 26 #[.int .i64 0, .int .i64 (-1), .slice a2 2 c2, .int .i64 1], _, _, _] from hS.out))
  clear q A3 d0 d1 d2 d3 f0 f1 f2 f3
  obtain ⟨_, d0, d1, d2, d3, f0, f1, f2, f3⟩ := hS.out.to1.b4
  replace hS := Lib.hid ((((hS.out.to1.set 0 (.int .i64 0)).set 1 (.int .i64 (-1))).set 2 (.slice a3 3 c3)).set 3 (.int .i64 2))
  have A4 := Lib.hid (leaveP_some 0 (-1) 2 (.slice a3 3 c3) [⟨0, 1, 3, 3, 0⟩, ⟨1, 2, 0, 6, 1⟩, ⟨2, 3, 0, 3, 2⟩] 0 0 _ hS.out.to1.vq_rq (by simp) (by decide))
  unfold hval at *
  go_wp2_with fail
  refine A4.out.mono ?_
  rintro e w5 ⟨a4, c4, rfl, q⟩
  replace hS := Lib.hid (q.graft (show Sep _ [blk w2.heap.size 26 #[.int .i64 0, .int .i64 (-1), .slice a3 3 c3, .int .i64 2], _, _, _, _] from hS.out))
  clear q A4 d0 d1 d2 d3 f0 f1 f2 f3
  obtain ⟨_, d0, d1, d2, d3, f0, f1, f2, f3⟩ := hS.out.to1.b4
  replace hS := Lib.hid ((((hS.out.to1.set 0 (.int .i64 0)).set 1 (.int .i64 (-1))).set 2 (.slice a4 2 c4)).set 3 (.int .i64 2))
  have A5 := Lib.hid (scan_any 0 (-1) 2 (.slice a4 2 c4) [⟨1, 2, 0, 6, 1⟩, ⟨2, 3, 0, 3, 2⟩] _ hS.out.to1.vq_rq (by simp) (by unfold Wants; decide))
  rw [show scanN (opens [(⟨1, 2, 0, 6, 1⟩ : Rq), ⟨2, 3, 0, 3, 2⟩]) [⟨1, 2, 0, 6, 1⟩, ⟨2, 3, 0, 3, 2⟩] [] = ([⟨1, 2, 6, 6, 0⟩, ⟨2, 3, 0, 3, 2⟩], [1]) by decide] at A5
  unfold hval at *
  go_wp2_with fail
  refine A5.out.mono ?_
  rintro e w6 ⟨a5, c5, b5, k5, rfl, q⟩
  replace hS := Lib.hid (Sep.gstar.1 ((Sep.gstar.2 q).graft (show Sep _ [blk w2.heap.size 26 #[.int .i64 0, .int .i64 (-1), .slice a4 2 c4, .int .i64 2], _, _, _, _, _] from hS.out)))
  clear q A5 d0 d1 d2 d3 f0 f1 f2 f3
  obtain ⟨_, d0, d1, d2, d3, f0, f1, f2, f3⟩ := hS.out.to2.b4
  replace hS := Lib.hid (show Sep _ [blk w2.heap.size 26 #[.int .i64 0, .int .i64 (-1), .slice a5 2 c5, .int .i64 2], _, _, _, _, _, _, _] from ((((hS.out.to2.set 0 (.int .i64 0)).set 1 (.int .i64 (-1))).set 2 (.slice a5 2 c5)).set 3 (.int .i64 2)))
  have HI := Lib.hid (show RI _ (.slice b5 1 k5) [1] from hS.out.to2.vec_ri)
  have hS9 := hS.out.alloc #[.int .i64 1] 3
  rw [World.size_setCell, World.size_setCell, World.size_setCell, World.size_setCell] at hS9
  replace hS := Lib.hid hS9
  clear hS9
  go_wp2_with fail
  refine (same_true _ _ [1] _ (by simp) (HI.out.below ((Below.refl _ _).alloc (Nat.le_refl _) _)) (ri_one hS.out)).mono ?_
  rintro e w7 ⟨rfl, m, rfl⟩
  replace hS := Lib.hid (hS.out.drewN m)
  clear d0 d1 d2 d3 f0 f1 f2 f3 HI
  obtain ⟨_, d0, d1, d2, d3, _⟩ := hS.out.to1.b4
  have A6 := Lib.hid (fun W hb => mode_any 0 (-1) 2 (.slice a5 2 c5) [⟨1, 2, 6, 6, 0⟩, ⟨2, 3, 0, 3, 2⟩] 2 W (RQ.below hS.out.to2.vq_rq hb) (by simp))
  have A7 := Lib.hid (fun W hb => mode_any 0 (-1) 2 (.slice a5 2 c5) [⟨1, 2, 6, 6, 0⟩, ⟨2, 3, 0, 3, 2⟩] 3 W (RQ.below hS.out.to2.vq_rq hb) (by simp))
  rw [show modeOf [(⟨1, 2, 6, 6, 0⟩ : Rq), ⟨2, 3, 0, 3, 2⟩] 2 = 6 by decide] at A6
  rw [show modeOf [(⟨1, 2, 6, 6, 0⟩ : Rq), ⟨2, 3, 0, 3, 2⟩] 3 = 0 by decide] at A7
  unfold hval at *
  go_wp2_with fail
  refine (A6.out _ (Below.refl _ _)).mono ?_
  rintro e w8 ⟨rfl, q⟩
  replace hS := Lib.hid (hS.out.below q)
  clear d0 d1 d2 d3 A6
  obtain ⟨_, d0, d1, d2, d3, _⟩ := hS.out.to1.b4
  go_wp2_with fail
  refine (A7.out _ q).mono ?_
  rintro e w9 ⟨rfl, q2⟩
  replace hS := Lib.hid (hS.out.below q2)
  clear d0 d1 d2 d3 A7
  go_wp2_with fail
  go_ret
  exact ⟨rfl, hS.out.tail.tail.tail.tail.tail.tail.tail.tail.gold⟩
end Go.Proofs.YtmacpjnkmkaloaaGreat
namespace Go.Proofs.YtmacpjnkmkaloaaGreat
set_option linter.unusedSimpArgs false
set_option linter.unusedVariables false
set_option linter.unnecessarySimpa false
open Go.RowKit
/-- A head's requests: where they lie, how many fit, what they are. -/
structure Hd where
  a : Option Addr
  c : Nat
  l : List Rq
  deriving Inhabited
/-- Heads that can be scanned. -/
def GoodH (w : World) (x : Hd) : Prop := RQ w (.slice x.a x.l.length x.c) x.l ∧ x.l.length ≤ 1000 ∧ Wants x.l ∧ IdsD x.l
theorem GoodH.below {w w' : World} {x : Hd} (h : GoodH w x) (hb : Below w.heap.size w w') : GoodH w' x := ⟨h.1.below hb, h.2⟩
end Go.Proofs.YtmacpjnkmkaloaaGreat
namespace Go.Proofs.YtmacpjnkmkaloaaGreat
set_option linter.unusedSimpArgs false
set_option linter.unusedVariables false
set_option linter.unnecessarySimpa false
open Go.RowKit
/-- What a call leaves: a head, a flag, an error. -/
structure HO where
  t : Int
  r : Int
  n : Int
  l : List Rq
  g : Bool
  e : Int
def oErr (e : Int) : HO := ⟨0, 0, 0, [], false, e⟩
def Tell3 (o : HO) (w : World) (e : Ending) (w' : World) : Prop := ∃ a c, e = .returned (.tuple #[hval o.t o.r (.slice a o.l.length c) o.n, .bool o.g, .int .i64 o.e]) ∧ Sep w' [vq (.slice a o.l.length c) o.l, old w]
def Tell2 (o : HO) (w : World) (e : Ending) (w' : World) : Prop := ∃ a c, e = .returned (.tuple #[hval o.t o.r (.slice a o.l.length c) o.n, .int .i64 o.e]) ∧ Sep w' [vq (.slice a o.l.length c) o.l, old w]
theorem vq_none {w w' : World} (hb : Below w.heap.size w w') : Sep w' [vq (.slice none 0 0) [], old w] := ((Sep.start w).below hb).vec_nil _ _
theorem tell3_err {x : Int} {w w' : World} {e : Ending} (h : e = .returned (.tuple #[zhd, .bool false, .int .i64 x]) ∧ Below w.heap.size w w') : Tell3 (oErr x) w e w' := ⟨none, 0, h.1, vq_none h.2⟩
theorem tell2_err {x : Int} {w w' : World} {e : Ending} (h : e = .returned (.tuple #[zhd, .int .i64 x]) ∧ Below w.heap.size w w') : Tell2 (oErr x) w e w' := ⟨none, 0, h.1, vq_none h.2⟩
def askO (t r n : Int) (l : List Rq) (id txn m : Int) : HO :=
  if id < 0 ∨ askedB m = false then oErr 2 else if l.any (fun q => q.id == id || q.txn == txn) = true then oErr 4
  else if firstI l < 0 ∧ l.any (fitsP ⟨id, txn, 0, m, 0⟩) = false then ⟨t, r, n, l ++ [⟨id, txn, m, m, 0⟩], true, 0⟩ else ⟨t, r, n + 1, l ++ [⟨id, txn, 0, m, n + 1⟩], false, 0⟩
theorem len_snoc (l : List Rq) (q : Rq) : (l ++ [q]).length = l.length + 1 := by simp
theorem askP_all (t r n : Int) (v : Value) (l : List Rq) (id txn m : Int) (w : World) (hv : RQ w v l) (hl : l.length ≤ 1000) (hn0 : 0 ≤ n) (hn1 : n ≤ 4611686018427387904) :
    Calls Tryz.prog 10 #[hval t r v n, .int .i64 id, .int .i64 txn, .int .i64 m] w (Tell3 (askO t r n l id txn m) w) := by
  unfold askO
  split
  · rename_i h1
    exact (askP_arg t r n v l id txn m w hv h1).mono fun e w' h => tell3_err h
  rename_i h1
  have h0 : ¬ id < 0 := fun h => h1 (.inl h)
  have ha : askedB m = true := by
    cases ha : askedB m with
    | true => rfl
    | false => exact absurd (.inr ha) h1
  split
  · rename_i h2
    exact (askP_twice t r n v l id txn m w hv hl h0 ha h2).mono fun e w' h => tell3_err h
  rename_i h2
  have hc : l.any (fun q => q.id == id || q.txn == txn) = false := (Bool.not_eq_true _).mp h2
  split
  · rename_i h3
    refine (askP_grant t r n v l id txn m w hv hl h0 ha hc h3.1 h3.2).mono ?_
    rintro e w' ⟨a, c, he, hS⟩
    exact ⟨a, c, by rw [he, len_snoc], by simpa only [len_snoc] using hS⟩
  · rename_i h3
    by_cases hf : firstI l < 0
    · have hm : l.any (fitsP ⟨id, txn, 0, m, 0⟩) = true := by
        cases hm : l.any (fitsP ⟨id, txn, 0, m, 0⟩) with
        | true => rfl
        | false => exact absurd ⟨hf, hm⟩ h3
      refine (askP_wait2 t r n v l id txn m w hv hl h0 ha hc hf hm hn0 hn1).mono ?_
      rintro e w' ⟨a, c, he, hS⟩
      exact ⟨a, c, by rw [he, len_snoc], by simpa only [len_snoc] using hS⟩
    · refine (askP_wait1 t r n v l id txn m w hv hl h0 ha hc hf hn0 hn1).mono ?_
      rintro e w' ⟨a, c, he, hS⟩
      exact ⟨a, c, by rw [he, len_snoc], by simpa only [len_snoc] using hS⟩
theorem firstI_lt (l : List Rq) : firstI l < 0 ↔ bestK l l.length < 0 ∧ idxF (fun q : Rq => q.mode == 0) l 0 < 0 := by
  unfold firstI
  split
  · rename_i h
    exact ⟨fun h2 => ⟨h, h2⟩, fun h2 => h2.2⟩
  · rename_i h
    exact ⟨fun h2 => absurd h2 h, fun h2 => absurd h2.1 h⟩
theorem askR_all (t r n : Int) (v : Value) (l : List Rq) (id txn m : Int) (w : World) (hv : RQ w v l) (hl : l.length ≤ 1000) (hn0 : 0 ≤ n) (hn1 : n ≤ 4611686018427387904) :
    Calls Tryz.prog 12 #[hval t r v n, .int .i64 id, .int .i64 txn, .int .i64 m] w (Tell3 (askO t r n l id txn m) w) := by
  unfold askO
  split
  · rename_i h1
    exact (askR_arg t r n v l id txn m w hv h1).mono fun e w' h => tell3_err h
  rename_i h1
  have h0 : ¬ id < 0 := fun h => h1 (.inl h)
  have ha : askedB m = true := by
    cases ha : askedB m with
    | true => rfl
    | false => exact absurd (.inr ha) h1
  split
  · rename_i h2
    exact (askR_twice t r n v l id txn m w hv hl h0 ha h2).mono fun e w' h => tell3_err h
  rename_i h2
  have hc : l.any (fun q => q.id == id || q.txn == txn) = false := (Bool.not_eq_true _).mp h2
  split
  · rename_i h3
    obtain ⟨h4, h5⟩ := (firstI_lt l).1 h3.1
    refine (askR_grant t r n v l id txn m w hv hl h0 ha hc h4 h5 h3.2).mono ?_
    rintro e w' ⟨a, c, he, hS⟩
    exact ⟨a, c, by rw [he, len_snoc], by simpa only [len_snoc] using hS⟩
  · rename_i h3
    by_cases h4 : bestK l l.length < 0
    · by_cases h5 : idxF (fun q : Rq => q.mode == 0) l 0 < 0
      · have hm : l.any (fitsP ⟨id, txn, 0, m, 0⟩) = true := by
          cases hm : l.any (fitsP ⟨id, txn, 0, m, 0⟩) with
          | true => rfl
          | false => exact absurd ⟨(firstI_lt l).2 ⟨h4, h5⟩, hm⟩ h3
        refine (askR_wait3 t r n v l id txn m w hv hl h0 ha hc h4 h5 hm hn0 hn1).mono ?_
        rintro e w' ⟨a, c, he, hS⟩
        exact ⟨a, c, by rw [he, len_snoc], by simpa only [len_snoc] using hS⟩
      · refine (askR_wait2 t r n v l id txn m w hv hl h0 ha hc h4 h5 hn0 hn1).mono ?_
        rintro e w' ⟨a, c, he, hS⟩
        exact ⟨a, c, by rw [he, len_snoc], by simpa only [len_snoc] using hS⟩
    · refine (askR_wait1 t r n v l id txn m w hv hl h0 ha hc h4 hn0 hn1).mono ?_
      rintro e w' ⟨a, c, he, hS⟩
      exact ⟨a, c, by rw [he, len_snoc], by simpa only [len_snoc] using hS⟩
def upO (t r n : Int) (l : List Rq) (id m : Int) : HO :=
  if askedB m = false then oErr 2 else if plc l id < 0 then oErr 5 else if 0 < (l.getD (plc l id).toNat default).since then oErr 7
  else if supV (l.getD (plc l id).toNat default).mode m = (l.getD (plc l id).toNat default).mode ∨ (l.any (fitsP (upQ (l.getD (plc l id).toNat default) m)) = false ∧ l.any upB = false) then ⟨t, r, n, l.set (plc l id).toNat { upQ (l.getD (plc l id).toNat default) m with mode := supV (l.getD (plc l id).toNat default).mode m }, true, 0⟩
  else ⟨t, r, n + 1, l.set (plc l id).toNat { upQ (l.getD (plc l id).toNat default) m with since := n + 1 }, false, 0⟩
theorem len_setQ (l : List Rq) (i : Nat) (q : Rq) : (l.set i q).length = l.length := by simp
theorem upP_all (t r n : Int) (v : Value) (l : List Rq) (id m : Int) (w : World) (hv : RQ w v l) (hl : l.length ≤ 1000) (hn0 : 0 ≤ n) (hn1 : n ≤ 4611686018427387904) :
    Calls Tryz.prog 13 #[hval t r v n, .int .i64 id, .int .i64 m] w (Tell3 (upO t r n l id m) w) := by
  unfold upO
  split
  · rename_i h1
    exact (upP_arg t r n v l id m w hv h1).mono fun e w' h => tell3_err h
  rename_i h1
  have ha : askedB m = true := (Bool.not_eq_false _).mp h1
  split
  · rename_i h2
    exact (upP_none t r n v l id m w hv hl ha (plc_neg h2)).mono fun e w' h => tell3_err h
  rename_i h2
  obtain ⟨i, hi, hil, _⟩ := plc_spec l id h2
  rw [hi, Int.toNat_natCast]
  split
  · rename_i h3
    exact (upP_state t r n v l id m w hv hl ha i hi hil (decide_eq_true h3)).mono fun e w' h => tell3_err h
  rename_i h3
  have hs := decide_eq_false h3
  split
  · rename_i h4
    by_cases hu : supV (l.getD i default).mode m = (l.getD i default).mode
    · refine (upP_same t r n v l id m w hv hl ha i hi hil hs hu).mono ?_
      rintro e w' ⟨a, c, he, hS⟩
      exact ⟨a, c, by rw [he, len_setQ], by simpa only [len_setQ] using hS⟩
    · obtain ⟨hf, hup⟩ := h4.resolve_left hu
      refine (upP_grant t r n v l id m w hv hl ha i hi hil hs hu hf hup).mono ?_
      rintro e w' ⟨a, c, he, hS⟩
      exact ⟨a, c, by rw [he, len_setQ], by simpa only [len_setQ] using hS⟩
  · rename_i h4
    have hu : ¬ supV (l.getD i default).mode m = (l.getD i default).mode := fun h => h4 (.inl h)
    cases hf : l.any (fitsP (upQ (l.getD i default) m)) with
    | true =>
      refine (upP_wait1 t r n v l id m w hv hl ha i hi hil hs hu hf hn0 hn1).mono ?_
      rintro e w' ⟨a, c, he, hS⟩
      exact ⟨a, c, by rw [he, len_setQ], by simpa only [len_setQ] using hS⟩
    | false =>
      have hup : l.any upB = true := by
        cases hup : l.any upB with
        | true => rfl
        | false => exact absurd (.inr ⟨hf, hup⟩) h4
      refine (upP_wait2 t r n v l id m w hv hl ha i hi hil hs hu hf hup hn0 hn1).mono ?_
      rintro e w' ⟨a, c, he, hS⟩
      exact ⟨a, c, by rw [he, len_setQ], by simpa only [len_setQ] using hS⟩
theorem upR_all (t r n : Int) (v : Value) (l : List Rq) (id m : Int) (w : World) (hv : RQ w v l) (hl : l.length ≤ 1000) (hD : IdsD l) (hn0 : 0 ≤ n) (hn1 : n ≤ 4611686018427387904) :
    Calls Tryz.prog 14 #[hval t r v n, .int .i64 id, .int .i64 m] w (Tell3 (upO t r n l id m) w) := by
  unfold upO
  split
  · rename_i h1
    exact (upR_arg t r n v l id m w hv hl h1).mono fun e w' h => tell3_err h
  rename_i h1
  have ha : askedB m = true := (Bool.not_eq_false _).mp h1
  split
  · rename_i h2
    exact (upR_none t r n v l id m w hv hl ha (plc_neg h2)).mono fun e w' h => tell3_err h
  rename_i h2
  obtain ⟨i, hi, hil, _⟩ := plc_spec l id h2
  rw [hi, Int.toNat_natCast]
  split
  · rename_i h3
    exact (upR_state t r n v l id m w hv hl ha i hi hil (decide_eq_true h3)).mono fun e w' h => tell3_err h
  rename_i h3
  have hs := decide_eq_false h3
  split
  · rename_i h4
    by_cases hu : supV (l.getD i default).mode m = (l.getD i default).mode
    · refine (upR_same t r n v l id m w hv hl ha i hi hil hs hD hu).mono ?_
      rintro e w' ⟨a, c, he, hS⟩
      exact ⟨a, c, by rw [he, len_setQ], by simpa only [len_setQ] using hS⟩
    · obtain ⟨hf, hup⟩ := h4.resolve_left hu
      refine (upR_grant t r n v l id m w hv hl ha i hi hil hs hD hu hf hup).mono ?_
      rintro e w' ⟨a, c, he, hS⟩
      exact ⟨a, c, by rw [he, len_setQ], by simpa only [len_setQ] using hS⟩
  · rename_i h4
    have hu : ¬ supV (l.getD i default).mode m = (l.getD i default).mode := fun h => h4 (.inl h)
    cases hf : l.any (fitsP (upQ (l.getD i default) m)) with
    | true =>
      refine (upR_wait1 t r n v l id m w hv hl ha i hi hil hs hD hu hf hn0 hn1).mono ?_
      rintro e w' ⟨a, c, he, hS⟩
      exact ⟨a, c, by rw [he, len_setQ], by simpa only [len_setQ] using hS⟩
    | false =>
      have hup : l.any upB = true := by
        cases hup : l.any upB with
        | true => rfl
        | false => exact absurd (.inr ⟨hf, hup⟩) h4
      refine (upR_wait2 t r n v l id m w hv hl ha i hi hil hs hD hu hf hup hn0 hn1).mono ?_
      rintro e w' ⟨a, c, he, hS⟩
      exact ⟨a, c, by rw [he, len_setQ], by simpa only [len_setQ] using hS⟩
def lvO (t r n : Int) (l : List Rq) (id : Int) : HO := if plc l id < 0 then oErr 5 else ⟨t, r, n, l.eraseIdx (plc l id).toNat, false, 0⟩
theorem lvP_all (t r n : Int) (v : Value) (l : List Rq) (id : Int) (w : World) (hv : RQ w v l) (hl : l.length ≤ 1000) (hD : IdsD l) :
    Calls Tryz.prog 15 #[hval t r v n, .int .i64 id] w (Tell2 (lvO t r n l id) w) := by
  unfold lvO
  split
  · rename_i h2
    exact (leaveP_none t r n v l id w hv hl (plc_neg h2)).mono fun e w' h => tell2_err h
  rename_i h2
  obtain ⟨i, hi, hil, _⟩ := plc_spec l id h2
  rw [hi, Int.toNat_natCast]
  have hk := keepQ_erase l i id hD hil (plc_id hi hil)
  have H := leaveP_some t r n v l id i w hv hl hi
  rw [hk] at H
  exact H
theorem lvR_all (t r n : Int) (v : Value) (l : List Rq) (id : Int) (w : World) (hv : RQ w v l) (hl : l.length ≤ 1000) :
    Calls Tryz.prog 16 #[hval t r v n, .int .i64 id] w (Tell2 (lvO t r n l id) w) := by
  unfold lvO
  split
  · rename_i h2
    exact (leaveR_none t r n v l id w hv hl (plc_neg h2)).mono fun e w' h => tell2_err h
  rename_i h2
  obtain ⟨i, hi, hil, _⟩ := plc_spec l id h2
  rw [hi, Int.toNat_natCast]
  exact leaveR_some t r n v l id i w hv hl hi hil
def abO (t r n : Int) (l : List Rq) (id : Int) : HO := if plc l id < 0 then oErr 5 else if ¬ 0 < (l.getD (plc l id).toNat default).since then oErr 7
  else if (l.getD (plc l id).toNat default).mode = 0 then ⟨t, r, n, l.eraseIdx (plc l id).toNat, false, 0⟩ else ⟨t, r, n, calm l (plc l id).toNat, false, 0⟩
theorem abP_all (t r n : Int) (v : Value) (l : List Rq) (id : Int) (w : World) (hv : RQ w v l) (hl : l.length ≤ 1000) (hD : IdsD l) :
    Calls Tryz.prog 17 #[hval t r v n, .int .i64 id] w (Tell2 (abO t r n l id) w) := by
  unfold abO
  split
  · rename_i h2
    exact (abP_none t r n v l id w hv hl (plc_neg h2)).mono fun e w' h => tell2_err h
  rename_i h2
  obtain ⟨i, hi, hil, _⟩ := plc_spec l id h2
  rw [hi, Int.toNat_natCast]
  split
  · rename_i h3
    exact (abP_state t r n v l id w hv hl i hi hil (decide_eq_false h3)).mono fun e w' h => tell2_err h
  rename_i h3
  have hs := decide_eq_true (Decidable.not_not.1 h3)
  split
  · rename_i h4
    have hk := keepQ_erase l i id hD hil (plc_id hi hil)
    have H := abP_gone t r n v l id w hv hl i hi hil hs h4
    rw [hk] at H
    exact H
  · rename_i h4
    exact abP_stay t r n v l id w hv hl i hi hil hs h4
theorem abR_all (t r n : Int) (v : Value) (l : List Rq) (id : Int) (w : World) (hv : RQ w v l) (hl : l.length ≤ 1000) :
    Calls Tryz.prog 18 #[hval t r v n, .int .i64 id] w (Tell2 (abO t r n l id) w) := by
  unfold abO
  split
  · rename_i h2
    exact (abandonR_none t r n v l id w hv hl (plc_neg h2)).mono fun e w' h => tell2_err h
  rename_i h2
  obtain ⟨i, hi, hil, _⟩ := plc_spec l id h2
  rw [hi, Int.toNat_natCast]
  split
  · rename_i h3
    exact (abandonR_calm t r n v l id i w hv hl hi hil (by omega)).mono fun e w' h => tell2_err h
  rename_i h3
  have hs := Decidable.not_not.1 h3
  split
  · rename_i h4
    exact abandonR_gone t r n v l id i w hv hl hi hil hs (by rw [h4]; rfl)
  · rename_i h4
    exact abandonR_stay t r n v l id i w hv hl hi hil hs (bne_iff_ne.2 h4)
def hdO (t r n : Int) (l : List Rq) (id txn : Int) : HO := if plc l id < 0 then oErr 5 else if l.any (handP id txn) = true then oErr 4 else if 0 < (l.getD (plc l id).toNat default).since then oErr 7
  else ⟨t, r, n, l.set (plc l id).toNat { l.getD (plc l id).toNat default with txn := txn }, false, 0⟩
theorem hdP_all (t r n : Int) (v : Value) (l : List Rq) (id txn : Int) (w : World) (hv : RQ w v l) (hl : l.length ≤ 1000) :
    Calls Tryz.prog 19 #[hval t r v n, .int .i64 id, .int .i64 txn] w (Tell2 (hdO t r n l id txn) w) := by
  unfold hdO
  split
  · rename_i h2
    exact (hand_none t r n v l id txn w hv hl (plc_neg h2)).mono fun e w' h => tell2_err h
  rename_i h2
  obtain ⟨i, hi, hil, _⟩ := plc_spec l id h2
  rw [hi, Int.toNat_natCast]
  split
  · rename_i h3
    exact (hand_twice t r n v l id txn w hv hl i hi hil h3).mono fun e w' h => tell2_err h
  rename_i h3
  have hc := (Bool.not_eq_true _).mp h3
  split
  · rename_i h4
    exact (hand_state t r n v l id txn w hv hl i hi hil hc (decide_eq_true h4)).mono fun e w' h => tell2_err h
  · rename_i h4
    refine (hand_ok t r n v l id txn w hv hl i hi hil hc (decide_eq_false h4)).mono ?_
    rintro e w' ⟨a, c, he, hS⟩
    exact ⟨a, c, by rw [he, len_setQ], by simpa only [len_setQ] using hS⟩
theorem hdR_all (t r n : Int) (v : Value) (l : List Rq) (id txn : Int) (w : World) (hv : RQ w v l) (hl : l.length ≤ 1000) (hD : IdsD l) :
    Calls Tryz.prog 20 #[hval t r v n, .int .i64 id, .int .i64 txn] w (Tell2 (hdO t r n l id txn) w) := by
  unfold hdO
  split
  · rename_i h2
    exact (handR_none t r n v l id txn w hv hl (plc_neg h2)).mono fun e w' h => tell2_err h
  rename_i h2
  obtain ⟨i, hi, hil, _⟩ := plc_spec l id h2
  rw [hi, Int.toNat_natCast]
  split
  · rename_i h3
    exact (handR_twice t r n v l id txn w hv hl i hi hil h3).mono fun e w' h => tell2_err h
  rename_i h3
  have hc := (Bool.not_eq_true _).mp h3
  split
  · rename_i h4
    exact (handR_state t r n v l id txn w hv hl i hi hil hD hc (decide_eq_true h4)).mono fun e w' h => tell2_err h
  · rename_i h4
    refine (handR_ok t r n v l id txn w hv hl i hi hil hD hc (decide_eq_false h4)).mono ?_
    rintro e w' ⟨a, c, he, hS⟩
    exact ⟨a, c, by rw [he, len_setQ], by simpa only [len_setQ] using hS⟩
theorem findP_all (t r n : Int) (v : Value) (l : List Rq) (id : Int) (w : World) (hv : RQ w v l) (hl : l.length ≤ 1000) :
    Calls Tryz.prog 21 #[hval t r v n, .int .i64 id] w fun e w' => e = .returned (.tuple #[(findV l id).1.val, .bool (findV l id).2]) ∧ Below w.heap.size w w' := by
  unfold findV
  split
  · rename_i h2
    exact find_none t r n v l id w hv hl (plc_neg h2)
  · rename_i h2
    obtain ⟨i, hi, hil, _⟩ := plc_spec l id h2
    rw [hi, Int.toNat_natCast]
    exact find_some t r n v l id w hv hl i hi hil
theorem findR_all (t r n : Int) (v : Value) (l : List Rq) (id : Int) (w : World) (hv : RQ w v l) (hl : l.length ≤ 1000) :
    Calls Tryz.prog 22 #[hval t r v n, .int .i64 id] w fun e w' => e = .returned (.tuple #[(findV l id).1.val, .bool (findV l id).2]) ∧ Below w.heap.size w w' := by
  unfold findV
  split
  · rename_i h2
    exact findR_none t r n v l id w hv hl (plc_neg h2)
  · rename_i h2
    obtain ⟨i, hi, hil, _⟩ := plc_spec l id h2
    rw [hi, Int.toNat_natCast]
    exact findR_some t r n v l id w hv hl i hi hil
theorem blockersT_any (t r n : Int) (v : Value) (l : List Rq) (id0 : Int) (w : World) (hv : RQ w v l) (hl : l.length ≤ 1000) :
    Calls Tryz.prog 28 #[hval t r v n, .int .i64 id0] w fun e w' => ∃ a c, e = .returned (.slice a (blkV l id0).length c) ∧ Sep w' [vec 3 1 (.slice a (blkV l id0).length c) (blkV l id0).length ((blkV l id0).map (Value.int .i64)), old w] := by
  have nil : ∀ w', Below w.heap.size w w' → Sep w' [vec 3 1 (.slice none 0 0) 0 [], old w] := fun w' hb => ((Sep.start w).below hb).vec_nil _ _
  by_cases hn : plc l id0 < 0
  · have e0 : blkV l id0 = [] := by unfold blkV; rw [if_pos hn]
    rw [e0]
    refine (blockers_none t r n v l id0 w hv hl (plc_neg hn)).mono ?_
    rintro e w' ⟨rfl, hb⟩
    exact ⟨none, 0, rfl, nil w' hb⟩
  · obtain ⟨i, hi, hil, _⟩ := plc_spec l id0 hn
    by_cases hs : 0 < (l.getD i default).since
    · have e0 : blkV l id0 = nrm (blkL l (l.getD i default)) := by unfold blkV; rw [if_neg hn, hi, Int.toNat_natCast, if_pos hs]
      rw [e0]
      exact blockers_some t r n v l id0 w hv hl i hi hil (decide_eq_true hs)
    · have e0 : blkV l id0 = [] := by unfold blkV; rw [if_neg hn, hi, Int.toNat_natCast, if_neg hs]
      rw [e0]
      refine (blockers_calm t r n v l id0 w hv hl i hi hil (decide_eq_false hs)).mono ?_
      rintro e w' ⟨rfl, hb⟩
      exact ⟨none, 0, rfl, nil w' hb⟩
theorem askO_len (t r n : Int) (l : List Rq) (id txn m : Int) (h : l.length ≤ 12) : (askO t r n l id txn m).l.length ≤ 1000 := by
  unfold askO oErr
  split
  · simp
  split
  · simp
  split <;> simp <;> omega
theorem upO_len (t r n : Int) (l : List Rq) (id m : Int) (h : l.length ≤ 12) : (upO t r n l id m).l.length ≤ 1000 := by
  unfold upO oErr
  split
  · simp
  split
  · simp
  split
  · simp
  split <;> simp <;> omega
theorem lvO_len (t r n : Int) (l : List Rq) (id : Int) (h : l.length ≤ 12) : (lvO t r n l id).l.length ≤ 1000 := by
  unfold lvO oErr
  split
  · simp
  · have := List.length_eraseIdx_le l (plc l id).toNat
    simp only
    omega
theorem abO_len (t r n : Int) (l : List Rq) (id : Int) (h : l.length ≤ 12) : (abO t r n l id).l.length ≤ 1000 := by
  unfold abO oErr
  split
  · simp
  split
  · simp
  split
  · have := List.length_eraseIdx_le l (plc l id).toNat
    simp only
    omega
  · simp only [calm_len]
    omega
theorem hdO_len (t r n : Int) (l : List Rq) (id txn : Int) (h : l.length ≤ 12) : (hdO t r n l id txn).l.length ≤ 1000 := by
  unfold hdO oErr
  split
  · simp
  split
  · simp
  split
  · simp
  · simp
    omega
end Go.Proofs.YtmacpjnkmkaloaaGreat
namespace Go.Proofs.YtmacpjnkmkaloaaGreat
set_option linter.unusedSimpArgs false
set_option linter.unusedVariables false
set_option linter.unnecessarySimpa false
open Go.RowKit Go.ChangeShapes Go.WideShapes Go.Deep
section
variable {H : Type} {enc : TypeId × Value → H} {P : Program} {w : World} {base : Nat} {spare : Nat → Bool} {held : Bool}
theorem open_slice_fields {t e : TypeId} {fs : Array Field} {fuel : Nat} {cs : List Value} {x : DataW H × List MemPlace} (ht : P.underlying t = some (.slice e)) (he : P.underlying e = some (.struct fs))
    (hone : oneCellFields P fs = true) (hC : P.cellsOf e = fs.size) (h : DataW.trod enc P w base spare held fuel t cs = some x) :
    (cs = [.slice none 0 0] ∧ x = (.nil, [])) ∨
    ∃ (a : Addr) (len cap m : Nat) (D : Nat → DataW H) (Pl : Nat → List MemPlace), cs = [.slice (some a) len cap] ∧ base ≤ a.block ∧ len ≤ cap ∧ cap ≤ maxLen ∧ m = (if spare a.block then cap else len) ∧
      x = (.slice ((List.range len).map D) ((List.range (m - len)).map fun j => D (len + j)), MemPlace.row a (m * fs.size) ++ (List.range m).flatMap Pl) ∧
      ∀ i, i < m → ∃ (ys : List (DataW H × List MemPlace)) (n : Nat), D i = .agg (ys.map (·.1)) ∧ Pl i = ys.flatMap (·.2) ∧ ys.length = fs.size ∧
        ∀ (j : Nat) (f : Field), fs[j]? = some f → ∃ (v : Value) (y : DataW H × List MemPlace), w.cell? (a.add (i * fs.size + j)) = some v ∧ ys[j]? = some y ∧ DataW.trod enc P w base spare held n f.type [v] = some y := by
  rcases open_slice ht h with h0 | ⟨a, len, cap, m, n, D, Pl, hcs, hb, hl, hm, hmm, hx, hi⟩
  · exact .inl h0
  · refine .inr ⟨a, len, cap, m, D, Pl, hcs, hb, hl, hm, hmm, by rw [hC] at hx; exact hx, fun i him => ?_⟩
    obtain ⟨cs', hc, ht'⟩ := hi i him
    rw [hC] at hc
    obtain ⟨ys, n', hn', hy, hlen, hyl, hf⟩ := DataW.trod_struct he ht'
    obtain ⟨_, hcl, hat⟩ := World.cells?_some hc
    simp only [Prod.mk.injEq] at hy
    refine ⟨ys, n', hy.1, hy.2, hyl, fun j f hj => ?_⟩
    obtain ⟨ho, hk⟩ := hone_of hone j f hj
    have hjl : j < fs.size := (Array.getElem?_eq_some_iff.1 hj).1
    have hcell := hat j hjl
    have hv : cs'[j]? = some (cs'[j]'(by omega)) := List.getElem?_eq_getElem (by omega)
    have h1 := hf j f hj
    rw [ho, hk] at h1
    have hone' : (cs'.drop j).take 1 = [cs'[j]'(by omega)] := by
      rw [List.drop_eq_getElem_cons (by omega)]
      rfl
    rw [hone'] at h1
    have hys : ys[j]? = some (ys[j]'(by omega)) := List.getElem?_eq_getElem (by omega)
    refine ⟨_, _, ?_, hys, h1.trans hys⟩
    rw [← Go.Deep.add_add, hcell, hv]

/-- A slice of structs of ints that came in, as the walks take it. -/
theorem rows_open {t e : TypeId} {fs : Array Field} {a : Option Addr} {len cap : Nat} {d : DataW H} {p : List MemPlace} (ht : P.underlying t = some (.slice e)) (he : P.underlying e = some (.struct fs))
    (hone : oneCellFields P fs = true) (hC : P.cellsOf e = fs.size) (hint : ∀ (j : Nat) (f : Field), fs[j]? = some f → P.underlying f.type = some (.int .i64))
    (hsz : 0 < fs.size) (h : DataW.Trod enc P w base spare held t (.slice a len cap) d p) : ∃ z, IsRows fs.size w a len cap z := by
  obtain ⟨fuel, hf⟩ := h
  rcases open_slice_fields ht he hone hC hf with ⟨hcs, _⟩ | ⟨x, l, c, m, D, Pl, hcs, _, hl, hm, hmm, _, hx⟩
  · simp [Value.cells] at hcs
    obtain ⟨rfl, rfl, rfl⟩ := hcs
    exact ⟨fun _ _ => 0, Nat.le_refl _, by simp [maxLen], fun h => absurd h (by omega)⟩
  · simp [Value.cells] at hcs
    obtain ⟨rfl, rfl, rfl⟩ := hcs
    have hlm : len ≤ m := by rw [hmm]; split <;> omega
    have key : ∀ i, i < len → ∀ j, j < fs.size → ∃ n, w.cell? (x.add (i * fs.size + j)) = some (.int .i64 n) ∧ (Lit.int .i64 n).wf = true := by
      intro i hi j hj
      obtain ⟨ys, n, _, _, _, hfs⟩ := hx i (by omega)
      obtain ⟨v, y, hcell, _, htr⟩ := hfs j fs[j] (Array.getElem?_eq_getElem hj)
      obtain ⟨q, hv, _, hwf⟩ := DataW.trod_int (hint j _ (Array.getElem?_eq_getElem hj)) htr
      injection hv with hv _
      subst hv
      exact ⟨q, hcell, hwf⟩
    refine ⟨fun i j => match w.cell? (x.add (i * fs.size + j)) with | some (.int _ n) => n | _ => 0, hl, hm, fun h0 => ?_⟩
    obtain ⟨n, hc, _⟩ := key 0 h0 0 hsz
    obtain ⟨b, off, sp⟩ := x
    have hsp : sp = none := by simpa [Addr.add] using World.cell?_spot hc
    subst hsp
    refine ⟨b, off, rfl, by simpa [Addr.add] using World.block_lt_of_cell? _ _ hc, fun i hi j hj => ?_⟩
    obtain ⟨q, hq, hwf⟩ := key i hi j hj
    have e : (⟨b, off, none⟩ : Addr).add (i * fs.size + j) = ⟨b, off + i * fs.size + j, none⟩ := by rw [Addr.add_lit]; simp
    rw [e] at hq
    simp only [e, hq, true_and]
    exact hwf

end
end Go.Proofs.YtmacpjnkmkaloaaGreat
namespace Go.Proofs.YtmacpjnkmkaloaaGreat
set_option linter.unusedSimpArgs false
set_option linter.unusedVariables false
set_option linter.unnecessarySimpa false
open Go.RowKit Go.ChangeShapes Go.WideShapes Go.Deep
theorem rows_nil {H : Type} {enc : TypeId × Value → H} {P : Program} {w : World} {base : Nat} {spare : Nat → Bool} {held : Bool} {t e : TypeId} {fs : Array Field} {a : Option Addr} {len cap : Nat} {d : DataW H} {p : List MemPlace} (ht : P.underlying t = some (.slice e)) (he : P.underlying e = some (.struct fs))
    (hone : oneCellFields P fs = true) (hC : P.cellsOf e = fs.size) (h : DataW.Trod enc P w base spare held t (.slice a len cap) d p) : a = none → cap = 0 := by
  obtain ⟨fuel, hf⟩ := h
  rcases open_slice_fields ht he hone hC hf with ⟨hcs, _⟩ | ⟨x, l, c, m, D, Pl, hcs, _⟩
  · simp [Value.cells] at hcs
    obtain ⟨rfl, rfl, rfl⟩ := hcs
    exact fun _ => rfl
  · simp [Value.cells] at hcs
    obtain ⟨rfl, rfl, rfl⟩ := hcs
    intro h
    cases h
end Go.Proofs.YtmacpjnkmkaloaaGreat
namespace Go.Proofs.YtmacpjnkmkaloaaGreat
set_option linter.unusedSimpArgs false
set_option linter.unusedVariables false
set_option linter.unnecessarySimpa false
open Go.RowKit Go.ChangeShapes Go.WideShapes Go.Joins Go.Deep
def rqL (z : Nat → Nat → Int) (len : Nat) : List Rq := (List.range len).map fun i => ⟨z i 0, z i 1, z i 2, z i 3, z i 4⟩
theorem rqL_len (z : Nat → Nat → Int) (len : Nat) : (rqL z len).length = len := by simp [rqL]
theorem rq_rows {w : World} {a : Option Addr} {len cap : Nat} {z : Nat → Nat → Int} (h : IsRows 5 w a len cap z) (hn : a = none → cap = 0) : RQ w (.slice a len cap) (rqL z len) := by
  obtain ⟨h1, _, h2⟩ := h
  refine ⟨a, cap, by rw [rqL_len], by rw [rqL_len]; exact h1, hn, fun h0 => ?_⟩
  rw [rqL_len] at h0
  obtain ⟨b, off, ha, hb, hz⟩ := h2 h0
  refine ⟨b, off, ha, hb, fun j hj => ?_⟩
  rw [rqL_len] at hj
  have e : (rqL z len).getD j default = ⟨z j 0, z j 1, z j 2, z j 3, z j 4⟩ := by simp [rqL, List.getD_eq_getElem?_getD, hj]
  rw [e]
  exact ⟨(hz j hj 0 (by omega)).1, (hz j hj 1 (by omega)).1, (hz j hj 2 (by omega)).1, (hz j hj 3 (by omega)).1, (hz j hj 4 (by omega)).1⟩
theorem hd_cells : Tryz.prog.cellsOf 26 = 4 := by kernel_rfl
theorem hd_cells2 : Tryz.prog.cellsOf 23 = 2 := by kernel_rfl
theorem hd_cells1 : Tryz.prog.cellsOf 3 = 1 := by kernel_rfl
theorem hd_cellsS : Tryz.prog.cellsOf 24 = 1 := by kernel_rfl
theorem hd_cells5 : Tryz.prog.cellsOf 42 = 5 := by kernel_rfl
section
variable {H : Type} {enc : TypeId × Value → H} {w : World} {base : Nat} {spare : Nat → Bool} {held : Bool}
set_option maxRecDepth 100000 in
theorem head_open {rc : Reach} {b0 : Nat} {v : Value} {d : DataW H} {p : List MemPlace} (hv : Value.okWide Tryz.prog w rc b0 26 v) (h : DataW.Trod enc Tryz.prog w base spare held 26 v d p) :
    ∃ (t r n : Int) (a : Option Addr) (m c : Nat) (l : List Rq), v = .agg #[.int .i64 t, .int .i64 r, .slice a m c, .int .i64 n] ∧ RQ w (.slice a m c) l ∧ l.length = m := by
  obtain ⟨cs, rfl, hsz⟩ := okWide_struct Tryz.underlying26 hv
  obtain ⟨c0, c1, c2, c3, rfl⟩ := array4 (hsz.trans hd_cells)
  obtain ⟨fuel, hf⟩ := h
  obtain ⟨y0, y1, y2, k, _, _, h0, h1, h2⟩ := trod_struct3 Tryz.underlying26 hf
  have hc : (Value.agg #[c0, c1, c2, c3]).cells.toList = [c0, c1, c2, c3] := rfl
  simp only [hc, hd_cells2, hd_cellsS, hd_cells1, List.drop_zero, List.drop_succ_cons, List.take_succ_cons, List.take_zero, List.take_nil] at h0 h1 h2
  obtain ⟨q0, q1, k0, _, _, g0, g1⟩ := trod_struct2 Tryz.underlying23 h0
  simp only [hd_cells1, List.drop_zero, List.drop_succ_cons, List.take_succ_cons, List.take_zero, List.take_nil] at g0 g1
  obtain ⟨t, e0, _, _⟩ := DataW.trod_int Tryz.underlying3 g0
  obtain ⟨r, e1, _, _⟩ := DataW.trod_int Tryz.underlying3 g1
  obtain ⟨n, e2, _, _⟩ := DataW.trod_int Tryz.underlying3 h2
  simp at e0 e1 e2
  subst e0 e1 e2
  obtain ⟨a, m, c, rfl⟩ : ∃ a m c, c2 = .slice a m c := by
    rcases open_slice_fields Tryz.underlying24 Tryz.underlying42 (by kernel_rfl) hd_cells5 h1 with ⟨hcs, _⟩ | ⟨x, l, c, m, D, Pl, hcs, _⟩
    · exact ⟨none, 0, 0, by simpa using hcs⟩
    · exact ⟨some x, l, c, by simpa using hcs⟩
  have hT : DataW.Trod enc Tryz.prog w base spare held 24 (.slice a m c) y1.1 y1.2 := ⟨k, by simpa [Value.cells] using h1⟩
  obtain ⟨z, hz⟩ := rows_open Tryz.underlying24 Tryz.underlying42 (by kernel_rfl) hd_cells5 (fun j f hj => by match j, hj with | 0, rfl => exact Tryz.underlying3 | 1, rfl => exact Tryz.underlying3 | 2, rfl => exact Tryz.underlying27 | 3, rfl => exact Tryz.underlying27 | 4, rfl => exact Tryz.underlying3) (by decide) hT
  exact ⟨t, r, n, a, m, c, rqL z m, rfl, rq_rows hz (rows_nil Tryz.underlying24 Tryz.underlying42 (by kernel_rfl) hd_cells5 hT), rqL_len z m⟩
end
end Go.Proofs.YtmacpjnkmkaloaaGreat
namespace Go.Proofs.YtmacpjnkmkaloaaGreat
set_option linter.unusedSimpArgs false
set_option linter.unusedVariables false
set_option linter.unnecessarySimpa false
open Go.RowKit Go.ChangeShapes Go.WideShapes Go.Joins Go.Deep
/-- A head: its name, how many began to wait, its queue as a value, and as a list. -/
structure Hv where
  t : Int
  r : Int
  n : Int
  v : Value
  l : List Rq
instance : Inhabited Hv := ⟨⟨0, 0, 0, .slice none 0 0, []⟩⟩
def Hv.cells (x : Hv) : List Value := [.int .i64 x.t, .int .i64 x.r, x.v, .int .i64 x.n]
/-- The value u is a slice of heads that reads as hs. -/
def HD (w : World) (u : Value) (hs : List Hv) : Prop :=
  ∃ a c, u = .slice a hs.length c ∧ (0 < hs.length → ∃ b off, a = some ⟨b, off, none⟩ ∧ b < w.heap.size ∧ ∀ i, i < hs.length →
    w.cell? ⟨b, off + i * 4, none⟩ = some (.int .i64 (hs.getD i default).t) ∧ w.cell? ⟨b, off + i * 4 + 1, none⟩ = some (.int .i64 (hs.getD i default).r) ∧
    w.cell? ⟨b, off + i * 4 + 2, none⟩ = some (hs.getD i default).v ∧ w.cell? ⟨b, off + i * 4 + 3, none⟩ = some (.int .i64 (hs.getD i default).n)) ∧
    ∀ i, i < hs.length → RQ w (hs.getD i default).v (hs.getD i default).l
theorem HD.below {w w' : World} {u : Value} {hs : List Hv} (h : HD w u hs) (hb : Below w.heap.size w w') : HD w' u hs := by
  obtain ⟨a, c, hv, hr, hq⟩ := h
  refine ⟨a, c, hv, fun h0 => ?_, fun i hi => (hq i hi).below hb⟩
  obtain ⟨b, off, ha, hlt, hz⟩ := hr h0
  have k : ∀ o, w'.cell? ⟨b, o, none⟩ = w.cell? ⟨b, o, none⟩ := fun o => hb.cell (p := ⟨b, o, none⟩) hlt
  exact ⟨b, off, ha, Nat.lt_of_lt_of_le hlt hb.size, fun j hj => by rw [k, k, k, k]; exact hz j hj⟩
section
variable {H : Type} {enc : TypeId × Value → H} {w : World} {base : Nat} {spare : Nat → Bool} {held : Bool}
end
end Go.Proofs.YtmacpjnkmkaloaaGreat
namespace Go.Proofs.YtmacpjnkmkaloaaGreat
set_option linter.unusedSimpArgs false
set_option linter.unusedVariables false
set_option linter.unnecessarySimpa false
open Go.RowKit
def lightH (hs : List Hv) (most : Nat) : Bool := decide (hs.length ≤ most) && hs.all fun x => decide (x.l.length ≤ 12)
theorem all_bad {α : Type} [Inhabited α] {p : α → Bool} {l : List α} {k : Nat} (hk : k < l.length) (h : p (l.getD k default) = false) : l.all p = false := by
  rw [List.all_eq_false]
  have e : l.getD k default = l[k] := by simp [List.getD, hk]
  rw [e] at h
  exact ⟨l[k], List.getElem_mem hk, by simp [h]⟩
theorem all_good {α : Type} [Inhabited α] {p : α → Bool} {l : List α} (h : ∀ k, k < l.length → p (l.getD k default) = true) : l.all p = true := by
  rw [List.all_eq_true]
  intro x hx
  obtain ⟨k, hk, rfl⟩ := List.getElem_of_mem hx
  have := h k hk
  simpa [List.getD, hk] using this
set_option maxHeartbeats 2000000 in
theorem light_any (u : Value) (hs : List Hv) (most : Nat) (w : World) (hv : HD w u hs) (hm : most ≤ 100) :
    Calls Tryz.prog 5 #[u, .int .i64 most] w fun e w' => e = .returned (.bool (lightH hs most)) ∧ w = w' := by
  obtain ⟨ua, uc, rfl, hr, hq⟩ := hv
  obtain ⟨n0, hn0⟩ : ∃ n0, hs.length = n0 := ⟨_, rfl⟩
  have hlb : ∀ k, k < hs.length → decide ((hs.getD k default).l.length ≤ 12) = false → lightH hs most = false := fun k hk h => by
    unfold lightH
    rw [all_bad (p := fun x : Hv => decide (x.l.length ≤ 12)) hk h, Bool.and_false]
  have hlg : hs.length ≤ most → (∀ k, k < hs.length → decide ((hs.getD k default).l.length ≤ 12) = true) → lightH hs most = true := fun h0 h => by
    unfold lightH
    rw [all_good (p := fun x : Hv => decide (x.l.length ≤ 12)) h, decide_eq_true h0]
    rfl
  have hl0 : ¬ hs.length ≤ most → lightH hs most = false := fun h => by
    unfold lightH
    rw [decide_eq_false h, Bool.false_and]
  rw [hn0] at hr hq hlb hlg hl0 ⊢
  replace hr := Lib.hid hr
  replace hq := Lib.hid hq
  replace hlb := Lib.hid hlb
  replace hlg := Lib.hid hlg
  clear hn0
  by_cases h0 : n0 ≤ most
  · have i0 : ¬ ((most : Int) < (n0 : Int)) := by omega
    replace hlg := Lib.hid (hlg.out h0)
    clear hl0
    go_enter Tryz.func5, Tryz.ntmps5
    go_wp2_with fail
    go_loopg [5] n0 (fun gm s5 W => ∃ k : Nat, k ≤ n0 ∧ gm = n0 - k ∧ s5 = .int .i64 k ∧ Hid (∀ j, j < k → decide ((hs.getD j default).l.length ≤ 12) = true) ∧ Hid (w = W))
    case atStart => exact ⟨0, Nat.zero_le _, rfl, rfl, Lib.hid (fun j h => absurd h (by omega)), Lib.hid rfl⟩
    case round =>
      obtain ⟨k, hk, hgm, rfl, hok, hW⟩ := hrel
      by_cases hlt : k < n0
      · obtain ⟨b, off, rfl, hb, hz⟩ := hr.out (by omega)
        obtain ⟨_, _, z2, _⟩ := hz k hlt
        have hRQ := hq.out k hlt
        have hbad := Lib.hid (hlb.out k hlt)
        have hokk := Lib.hid (fun (h : decide ((hs.getD k default).l.length ≤ 12) = true) j (hj : j < k + 1) => show decide ((hs.getD j default).l.length ≤ 12) = true from by
          rcases Nat.lt_or_ge j k with h1 | h1
          · exact hok.out j h1
          · obtain rfl : j = k := by omega
            exact h)
        obtain ⟨qa, qc, hqv, _⟩ := hRQ
        rw [hqv, hW.out] at z2
        clear hqv hz
        generalize (hs.getD k default).l.length = m at *
        have i1 : (0 : Int) ≤ (k : Int) := by omega
        have i2 : (k : Int) < (n0 : Int) := by omega
        by_cases h12 : m ≤ 12
        · have i12 : ¬ ((12 : Int) < (m : Int)) := by omega
          replace hokk := Lib.hid (hokk.out (decide_eq_true h12))
          clear hbad
          go_wp2_with fail
          go_roundg (n0 - (k + 1))
          case measure => omega
          case rel => exact ⟨k + 1, by omega, rfl, by go_num, hokk, hW⟩
        · have i12 : (12 : Int) < (m : Int) := by omega
          replace hbad := Lib.hid (hbad.out (decide_eq_false h12))
          go_wp2_with fail
          go_ret
          exact ⟨by rw [hbad.out]; rfl, hW.out⟩
      · obtain rfl : k = n0 := by omega
        have hg := Lib.hid (hlg.out hok.out)
        go_wp2_with fail
        go_ret
        exact ⟨by rw [hg.out]; rfl, hW.out⟩
  · have i0 : (most : Int) < (n0 : Int) := by omega
    have hg := Lib.hid (hl0 h0)
    clear hl0 hlg
    go_enter Tryz.func5, Tryz.ntmps5
    go_wp2_with fail
    go_ret
    exact ⟨by rw [hg.out]; rfl, rfl⟩
end Go.Proofs.YtmacpjnkmkaloaaGreat
