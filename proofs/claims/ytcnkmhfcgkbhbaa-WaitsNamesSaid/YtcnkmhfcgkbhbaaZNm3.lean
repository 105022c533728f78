/-
  Contracts and plain laws that the walk leans on, part 3. No condition.
-/
import Derived.Test.YtcnkmhfcgkbhbaaZNm2
import Derived.Deep.RegionWith
import Derived.Shelf.SlicesE.IndexFunc
import Derived.Laws.EntriesVeiled
import Derived.Test.YtcnkmhfcgkbhbaaProg
import Derived.Test.YtcnkmhfcgkbhbaaChecked
import Derived.Shelf.SlSortCmp.Whole1
import Derived.Shelf.SlSortCmp.WholeK
import Derived.Shelf.SlSortCmp.NoneTotal
import Derived.Shelf.SlicesG.Cmp
import Derived.Shelf.Sort.Plain
import Derived.Shelf.Slices.CompactI
import Derived.Ground.SlsfProg
import Derived.Ground.SlgcProg
import Derived.Ground.NamesProg
import Derived.Ground.Names2Prog
namespace Go.Proofs.Ytcnkmhfcgkbhbaa
set_option linter.unusedSimpArgs false
set_option linter.unusedVariables false
set_option linter.unnecessarySimpa false
open Go.RowKit
structure Ed where
  from_ : Int
  tgt : Int
  deriving DecidableEq, Inhabited
def Ed.cells (e : Ed) : List Value := [.int .i64 e.from_, .int .i64 e.tgt]
theorem ed_len (e : Ed) : e.cells.length = 2 := rfl
def eqD (P : Program) (d : Nat) (xs ys : Array Value) : List (Bool × TypeId × Nat) → Sem Bool
  | [] => pure true
  | (b, t, o) :: ds =>
    if b = false then do
      let x ← part t xs o
      let y ← part t ys o
      let r ← Op.equalIn d t x y
      if (!r) = true then pure false else eqD P d xs ys ds
    else eqD P d xs ys ds
theorem eqFields_eqD (P : Program) (d : Nat) (xs ys : Array Value) : ∀ fs : List Field, Op.eqFields d xs ys fs = eqD P d xs ys (fs.map fun f => (f.name == "_", f.type, f.offset))
  | [] => rfl
  | f :: fs => by
    have ih := eqFields_eqD P d xs ys fs
    simp only [List.map_cons, Op.eqFields, eqD, ih, beq_eq_false_iff_ne]
theorem eqD_nil {P : Program} {d : Nat} {xs ys : Array Value} {w : World} : (eqD P d xs ys []).run P w = .ok true w := by simp [eqD]
theorem eqD_cons {P : Program} {d : Nat} {xs ys : Array Value} {t : TypeId} {o : Nat} {ds : List (Bool × TypeId × Nat)} {w : World} {x y : Value} {r s : Bool} (h1 : (part t xs o).run P w = .ok x w) (h2 : (part t ys o).run P w = .ok y w)
    (h3 : (Op.equalIn d t x y).run P w = .ok r w) (h4 : (eqD P d xs ys ds).run P w = .ok s w) : (eqD P d xs ys ((false, t, o) :: ds)).run P w = .ok (r && s) w := by
  cases r <;> simp [eqD, h1, h2, h3, h4, Result.andThen]
theorem part_one {P : Program} {t : TypeId} {xs : Array Value} {o : Nat} {v : Value} {w : World} {d : TypeDesc} (ht : P.underlying t = some d) (hd : (match d with | .struct _ | .array _ _ => false | _ => true) = true) (h : xs[o]? = some v) : (part t xs o).run P w = .ok v w := by
  cases d <;> simp_all [part, isAgg, run_underlying ht, Result.andThen]
def eqB_ed (a0 b0 : Int) (a1 b1 : Int) : Bool := ((a0 == b0) && ((a1 == b1) && true))
theorem held_ed : Try.prog.stoodInHeld 41 = false := by kernel_rfl
theorem und_ed : Try.prog.underlying 41 = some (.struct (Try.prog.fieldsOf 41)) := by kernel_rfl
theorem names_ed : (Try.prog.fieldsOf 41).toList.map (fun f => (f.name == "_", f.type, f.offset)) = [(false, 3, 0), (false, 3, 1)] := by kernel_rfl
theorem equalIn_ed (d : Nat) (a0 b0 : Int) (a1 b1 : Int) (w : World) : (Op.equalIn (d + 2) 41 (.agg #[.int .i64 a0, .int .i64 a1]) (.agg #[.int .i64 b0, .int .i64 b1])).run Try.prog w = .ok (eqB_ed a0 b0 a1 b1) w := by
  rw [run_equalIn_struct (P := Try.prog) w (d + 1) 41 _ _ und_ed held_ed, eqFields_eqD Try.prog, names_ed]
  unfold eqB_ed
  refine eqD_cons (part_one Try.underlying3 rfl rfl) (part_one Try.underlying3 rfl rfl) (run_equalIn_int w _ _ _ _ _ _ Try.underlying3) ?_
  refine eqD_cons (part_one Try.underlying3 rfl rfl) (part_one Try.underlying3 rfl rfl) (run_equalIn_int w _ _ _ _ _ _ Try.underlying3) ?_
  exact eqD_nil
theorem run_eql_ed (a0 b0 : Int) (a1 b1 : Int) (w : World) : (binOp .eql 41 (.agg #[.int .i64 a0, .int .i64 a1]) (.agg #[.int .i64 b0, .int .i64 b1])).run Try.prog w = .ok (.bool (eqB_ed a0 b0 a1 b1)) w := by
  have h := equalIn_ed 9998 a0 b0 a1 b1 w
  simp only [binOp]
  simp [Op.equal, Op.maxDepth, h]
theorem run_neq_ed (a0 b0 : Int) (a1 b1 : Int) (w : World) : (binOp .neq 41 (.agg #[.int .i64 a0, .int .i64 a1]) (.agg #[.int .i64 b0, .int .i64 b1])).run Try.prog w = .ok (.bool !(eqB_ed a0 b0 a1 b1)) w := by
  have h := equalIn_ed 9998 a0 b0 a1 b1 w
  simp only [binOp]
  simp [Op.equal, Op.maxDepth, h]
theorem eqB_ed_iff (a0 b0 : Int) (a1 b1 : Int) : eqB_ed a0 b0 a1 b1 = decide (a0 = b0 ∧ a1 = b1) := by
  rw [Bool.eq_iff_iff]
  unfold eqB_ed
  simp
def val_ed : Ed → Value := fun x => match x with | ⟨fr, tgt⟩ => .agg #[.int .i64 fr, .int .i64 tgt]
def Pred_ed (g : Nat) (lb : Array Value) (p : Ed → Bool) (l : List Ed) (w : World) : Prop :=
  ∀ (W : World) (x : Ed), x ∈ l → Below w.heap.size w W → Calls Try.prog g (#[val_ed x] ++ lb) W fun e w' => e = .returned (.bool (p x)) ∧ Below W.heap.size W w'
theorem cells_ed {w : World} {a : Option Addr} {n c : Nat} {l : List Ed} (hv : RL w (.slice a n c) 2 n (l.flatMap Ed.cells)) (hn : l.length = n) (h0 : 0 < n) : ∃ b off, a = some ⟨b, off, none⟩ ∧ b < w.heap.size ∧ ∀ k x, l[k]? = some x → ∀ j u, (Ed.cells x)[j]? = some u → w.cell? ⟨b, off + (k * 2 + j), none⟩ = some u := by
  subst hn
  obtain ⟨b, off, c', hv', _, hb, h⟩ := RL.at_ ed_len hv h0
  injection hv' with e1 _ _
  exact ⟨b, off, e1, hb, h⟩
set_option maxHeartbeats 1000000 in
theorem index_ed (v : Value) (l : List Ed) (g : Nat) (lb : Array Value) (p : Ed → Bool) (w : World) (hv : RL w v 2 l.length (l.flatMap Ed.cells)) (hl : l.length ≤ 100000) (hp : Pred_ed g lb p l w)
    (eg : ∀ args w, (callFunc g args).run Try.prog w = .ok (.enter g args) w) :
    Calls Try.prog 55 #[v, .func (.func g) #[] lb] w fun e w' => e = .returned (.int .i64 (idxF p l 0)) ∧ Below w.heap.size w w' := by
  have hv2 := hv
  obtain ⟨_, a, c, rfl, _⟩ := hv
  have HP := Lib.hid hp
  clear hp
  generalize hn : l.length = n at *
  replace hn := Lib.hid hn
  replace hv2 := Lib.hid hv2
  go_enter Try.func55, Try.ntmps55
  go_wp2
  go_loopw [8] (fun i wr => ∃ k : Nat, k ≤ n ∧ i = .int .i64 k ∧ Hid (idxF p l 0 = idxF p (l.drop k) k) ∧ Hid (Below w.heap.size w wr)) (fun i _ => n - (intOf i).toNat)
  case atStart => exact ⟨0, Nat.zero_le _, rfl, rfl, Below.refl _ _⟩
  case round =>
    obtain ⟨k, hk, rfl, he, hb⟩ := hrel
    by_cases hlt : k < n
    · obtain ⟨b, off, rfl, hbl, hz⟩ := cells_ed hv2.out hn.out (by omega)
      obtain ⟨x, hx⟩ : ∃ x, l[k]? = some x := ⟨l[k]'(by rw [hn.out]; exact hlt), List.getElem?_eq_getElem _⟩
      have hz := hz k x hx
      have z0 := (hb.out.cell (p := ⟨b, off + k * 2, none⟩) hbl).trans (hz 0 _ rfl)
      have z1 := (hb.out.cell (p := ⟨b, off + k * 2 + 1, none⟩) hbl).trans (hz 1 _ rfl)
      have E := Lib.hid (show l.drop k = x :: l.drop (k + 1) by
        obtain ⟨h1, h2⟩ := List.getElem?_eq_some_iff.1 hx
        rw [List.drop_eq_getElem_cons h1, h2])
      have hq := Lib.hid (HP.out wr x (List.mem_of_getElem? hx) hb.out)
      have i1 : (0 : Int) ≤ (k : Int) := by omega
      have i2 : (k : Int) < (n : Int) := by omega
      clear hz hx
      obtain ⟨fr, tgt⟩ := x
      simp only at z0 z1
      simp only [val_ed] at hq
      go_wp2_with fail
      refine hq.out.mono ?_
      rintro e w1 ⟨rfl, b1⟩
      replace hb := Lib.hid (hb.out.trans (b1.mono hb.out.size))
      clear z0 z1 b1 hq
      cases hpr : p ⟨fr, tgt⟩ with
      | true =>
        have E2 := Lib.hid (show idxF p l 0 = (k : Int) by rw [he.out, E.out]; simp only [idxF, hpr, if_true])
        go_wp2_with fail
        go_ret
        exact ⟨by rw [E2.out]; rfl, hb.out⟩
      | false =>
        have E2 := Lib.hid (show idxF p l 0 = idxF p (l.drop (k + 1)) (k + 1) by rw [he.out, E.out]; simp only [idxF, hpr]; rfl)
        go_wp2_with fail
        go_roundw
        case rel => exact ⟨k + 1, by omega, by go_num, E2, hb⟩
        case measure => simp [intOf]; omega
    · have hk2 : k = n := by omega
      have E := Lib.hid (show idxF p l 0 = -1 by rw [he.out, List.drop_eq_nil_of_le (by rw [hn.out]; omega)]; rfl)
      clear he
      go_wp2_with fail
      go_ret
      exact ⟨by rw [E.out]; rfl, hb.out⟩
theorem idxL_take {α : Type} [Inhabited α] (p : α → Bool) : ∀ (l : List α) (k : Nat) (j : Nat), idxF p l k = ((k + j : Nat) : Int) → j < l.length → p (l.getD j default) = true ∧ keepL p (l.take j) = l.take j
  | [], k, j, _, h => by simp at h
  | x :: l, k, j, h, hj => by
    unfold idxF at h
    cases hx : p x with
    | true =>
      rw [hx] at h
      simp only [if_true] at h
      obtain rfl : j = 0 := by omega
      exact ⟨by simpa [List.getD] using hx, by simp [keepL]⟩
    | false =>
      rw [hx] at h
      simp only [Bool.false_eq_true, if_false] at h
      cases j with
      | zero =>
        exfalso
        rcases idxF_bd p l (k + 1) with h' | ⟨j', h1, _, _⟩ <;> omega
      | succ j =>
        have := idxL_take p l (k + 1) j (by rw [h]; congr 1; omega) (by simpa using hj)
        refine ⟨by simpa [List.getD] using this.1, ?_⟩
        have h2 := this.2
        unfold keepL at h2 ⊢
        simp only [List.take_succ_cons]
        rw [List.filter_cons_of_pos (by simp [hx]), h2]
theorem idxL_none {α : Type} (p : α → Bool) : ∀ (l : List α) (k : Nat), idxF p l k = -1 → keepL p l = l
  | [], _, _ => rfl
  | x :: l, k, h => by
    unfold idxF at h
    cases hx : p x with
    | true => rw [hx] at h; simp only [if_true] at h; omega
    | false =>
      rw [hx] at h
      simp only [Bool.false_eq_true, if_false] at h
      have := idxL_none p l (k + 1) h
      unfold keepL at this ⊢
      rw [List.filter_cons_of_pos (by simp [hx]), this]
theorem dzero_ed (w : World) : (zeroValue 41).run Try.prog w = .ok (.agg #[.int .i64 0, .int .i64 0]) w := by kernel_rfl
theorem dsize_ed : (Value.agg #[.int .i64 0, .int .i64 0]).cells.size = 2 := rfl
theorem done_ed : ∀ u ∈ (Value.agg #[.int .i64 0, .int .i64 0]).cells.toList, u.oneCell' = true := by
  intro u hu
  simp [Value.cells] at hu
  first | (subst hu; rfl) | (rcases hu with hu | hu <;> (subst hu; rfl)) | (rcases hu with hu | hu | hu <;> (subst hu; rfl))
/-- What is asked of a function value while a row is written. -/
def PredC_ed (g : Nat) (lb : Array Value) (p : Ed → Bool) (ctx : List Res) : Prop :=
  ∀ (W : World) (r : Ed), Sep W ctx → Calls Try.prog g (#[val_ed r] ++ lb) W fun e w' => e = .returned (.bool (p r)) ∧ Below W.heap.size W w'
set_option maxHeartbeats 4000000 in
set_option maxRecDepth 100000 in
theorem deleteFunc_ed (a : Option Addr) (m c : Nat) (l : List Ed) (g : Nat) (lb : Array Value) (p : Ed → Bool) (w : World) (ctx : List Res) (hS : Sep w (vec 41 2 (.slice a m c) m (l.flatMap Ed.cells) :: ctx)) (hl : l.length = m) (hm : m ≤ 1000) (hp : PredC_ed g lb p ctx)
    (eg : ∀ args w, (callFunc g args).run Try.prog w = .ok (.enter g args) w) :
    Calls Try.prog 36 #[.slice a m c, .func (.func g) #[] lb] w fun e w' => e = .returned (.slice a (keepL p l).length c) ∧ Sep w' (vec 41 2 (.slice a (keepL p l).length c) (keepL p l).length ((keepL p l).flatMap Ed.cells) :: ctx) := by
  have HI := Lib.hid (index_ed (.slice a m c) l g lb p w (by rw [hl]; exact hS.vec_rl) (by omega) (fun W r _ hb => hp W r (hS.tail.below hb)) eg)
  have hbd := idxF_bd p l 0
  have hnone := Lib.hid (idxL_none p l 0)
  have htake := Lib.hid (idxL_take p l 0)
  replace hS := Lib.hid hS
  replace hp := Lib.hid hp
  generalize idxF p l 0 = x at *
  rcases hbd with rfl | ⟨i0, hx, hi0, hpi⟩
  · have E := Lib.hid (hnone.out rfl)
    go_enter Try.func36, Try.ntmps36
    go_wp2_with fail
    refine HI.out.mono ?_
    rintro e w1 ⟨rfl, b1⟩
    replace hS := Lib.hid (hS.out.below b1)
    clear b1
    go_wp2_with fail
    go_ret
    exact ⟨by rw [E.out, hl]; rfl, by rw [E.out, hl]; exact hS.out⟩
  · rw [Nat.zero_add] at hx
    subst hx
    obtain ⟨hpt, hk0⟩ := htake.out i0 (by simp) hi0
    obtain ⟨g0, rfl, _⟩ := hS.out.vec_at ed_len hl (by omega : i0 < m)
    have hm0 : ((i0 : Int) == -1) = false := by rw [beq_eq_false_iff_ne]; omega
    have hst := Lib.hid (show keepL p (l.take (i0 + 1)) = l.take i0 by rw [keepL_snoc p l i0 hi0, hpt, hk0]; simp)
    replace hk0 := Lib.hid hk0
    replace hl := Lib.hid hl
    have hi0' : i0 < m := by have := hl.out; omega
    clear hpt hpi hnone htake
    go_enter Try.func36, Try.ntmps36
    go_wp2_with fail
    refine HI.out.mono ?_
    rintro e w1 ⟨rfl, b1⟩
    replace hS := Lib.hid (hS.out.below b1)
    clear b1 HI
    go_wp2_with fail
    go_loopg [5, 6] (m - (i0 + 1)) (fun g s5 s6 wr => ∃ (i j : Nat) (cur : List Ed), i < j ∧ j ≤ m ∧ g = m - j ∧ s5 = .int .i64 i ∧ s6 = .int .i64 j ∧ Hid (cur.length = m) ∧ Hid (cur.take i = keepL p (l.take j)) ∧ Hid (i = (keepL p (l.take j)).length) ∧ Hid (cur.drop j = l.drop j) ∧ Hid (Sep wr (vec 41 2 (.slice (some ⟨g0, 0, none⟩) m c) m (cur.flatMap Ed.cells) :: ctx)))
    case atStart => exact ⟨i0, i0 + 1, l, by omega, by omega, rfl, rfl, by go_num, hl, Lib.hid (by rw [hst.out]), Lib.hid (by rw [hst.out, List.length_take]; omega), Lib.hid rfl, hS⟩
    case round =>
      clear hS hst hk0
      obtain ⟨i, j, cur, hij, hjm, hg, rfl, rfl, hcl, hct, hci, hcd, hS⟩ := hrel
      by_cases hlt : j < m
      · have hqq : cur.getD j default = l.getD j default := by
          have h1 := congrArg (fun x : List Ed => x.getD 0 default) hcd.out
          simpa [List.getD] using h1
        replace hqq := Lib.hid hqq
        obtain ⟨g', hg', hgl, hmc, zz, hfz⟩ := hS.out.vec_at ed_len hcl.out hlt
        injection hg' with hg'
        injection hg' with hg'
        subst hg'
        rw [hqq.out] at zz
        have z0 := zz 0 _ rfl
        have z1 := zz 1 _ rfl
        have hsn := Lib.hid (keepL_snoc p l j (by have := hl.out; omega))
        have hcd' := Lib.hid (show cur.drop (j + 1) = l.drop (j + 1) by have h := congrArg (List.drop 1) hcd.out; simpa [List.drop_drop] using h)
        clear zz
        generalize l.getD j default = q at *
        have hS2 := Lib.hid (hS.out.alloc (Ed.cells q).toArray 41)
        have HP := Lib.hid (hp.out _ q hS2.out.tail.tail)
        have hput := Lib.hid (fun W (h : Sep W (vec 41 2 (.slice (some ⟨g0, 0, none⟩) m c) m (cur.flatMap Ed.cells) :: blk wr.heap.size 41 (Ed.cells q).toArray :: ctx)) => by
          have h2 := Sep.vec_setN (Ed.cells q) (i * 2) W _ h (by rw [ed_len, flat_len _ _ ed_len, hcl.out]; omega)
          rw [flat_put ed_len cur i q (by rw [hcl.out]; omega)] at h2
          exact h2)
        obtain ⟨fr, tgt⟩ := q
        simp only [val_ed] at HP
        simp only [Ed.cells, setW, Nat.add_assoc, Nat.reduceAdd] at hS2 HP hput
        simp only [Nat.add_zero] at z0 z1
        have i1 : (0 : Int) ≤ (j : Int) := by omega
        have i2 : (j : Int) < (m : Int) := by omega
        have i3 : (0 : Int) ≤ (i : Int) := by omega
        have i4 : (i : Int) < (m : Int) := by omega
        clear hfz
        go_wp2_with fail
        refine HP.out.mono ?_
        rintro e w2 ⟨rfl, b2⟩
        have hS3 := Lib.hid (hS2.out.below b2)
        have hb9 := hS3.out.gblk
        have r0 := hb9.cell 0
        have r0f := hb9.frozen 0
        have r1 := hb9.cell 1
        have r1f := hb9.frozen 1
        clear hb9
        obtain ⟨g', hg', hgl2, _, yy, hfz⟩ := hS3.out.to1.vec_at ed_len hcl.out (show i < m by omega)
        injection hg' with hg'
        injection hg' with hg'
        subst hg'
        have hcx : ∀ f, f < 2 → ∃ u, w2.cell? ⟨g0, i * 2 + f, none⟩ = some u := fun f hf => by
          obtain ⟨u, hu⟩ : ∃ u, (Ed.cells (cur.getD i default))[f]? = some u := ⟨_, List.getElem?_eq_getElem (by rw [ed_len]; exact hf)⟩
          exact ⟨u, yy f u hu⟩
        obtain ⟨u0, y0⟩ := hcx 0 (by omega)
        have f0 := hfz (i * 2)
        obtain ⟨u1, y1⟩ := hcx 1 (by omega)
        have f1 := hfz (i * 2 + 1)
        rw [Nat.add_zero] at y0
        clear b2 HP hS2 z0 z1 hS hfz yy hcx
        cases hpq : p ⟨fr, tgt⟩ with
        | true =>
          rw [hpq] at hsn
          simp only [if_true, List.append_nil] at hsn
          clear hpq
          go_wp2_with fail
          go_roundg (m - (j + 1))
          case measure => omega
          case rel => exact ⟨i, j + 1, cur, by omega, by omega, rfl, rfl, by go_num, hcl, Lib.hid (by rw [hsn.out]; exact hct.out), Lib.hid (by rw [hsn.out]; exact hci.out), hcd', Lib.hid hS3.out.tail⟩
        | false =>
          rw [hpq] at hsn
          simp only [Bool.false_eq_true, if_false] at hsn
          have hS4 := hput.out _ hS3.out.to1
          replace hS4 := Lib.hid hS4
          clear hpq hput
          go_wp2_with fail
          go_roundg (m - (j + 1))
          case measure => omega
          case rel => exact ⟨i + 1, j + 1, cur.set i ⟨fr, tgt⟩, by omega, by omega, rfl, by go_num, by go_num, Lib.hid (by rw [List.length_set]; exact hcl.out), Lib.hid (by rw [hsn.out, ← hct.out]; exact take_set_snocL cur i _ (by rw [hcl.out]; omega)), Lib.hid (by rw [hsn.out, List.length_append, ← hci.out]; rfl), Lib.hid (by rw [List.drop_set_of_lt (by omega)]; exact hcd'.out), Lib.hid hS4.out.drop1⟩
      · have hjm' : j = m := by omega
        have hlm : l.take j = l := List.take_of_length_le (by have := hl.out; omega)
        rw [hlm] at hct hci
        have hi3 : i < m := by omega
        obtain ⟨g', hg', hgl, hmc, _⟩ := hS.out.vec_at ed_len hcl.out hi3
        have i3 : (0 : Int) ≤ (i : Int) := by omega
        have i4 : (i : Int) < (m : Int) := by omega
        have i5 : (i : Int) ≤ (c : Int) := by omega
        clear hg' hgl hlm
        go_wp2_with (refine wpList_clear_sep hS.out (by kernel_rfl) (.tmp 38) 33 (by rfl) _ Try.underlying33 dzero_ed dsize_ed done_ed i hi3 (c - i) (by rfl) ?_)
        intro w3 ys hS3
        have hS4 := hS3.vec_shrink (k := i) (by omega)
        have hq : ((cur.flatMap Ed.cells).take (i * 2) ++ ys).take (i * 2) = (keepL p l).flatMap Ed.cells := by
          rw [List.take_append_of_le_length (by rw [List.length_take, flat_len _ _ ed_len, hcl.out]; omega), List.take_take, Nat.min_self, flat_take _ _ ed_len _ _ (by rw [hcl.out]; omega), hct.out]
        rw [hq] at hS4
        replace hS4 := Lib.hid hS4
        clear hS3 hq hS
        go_wp2_with fail
        go_ret
        exact ⟨by rw [← hci.out]; rfl, by rw [← hci.out]; exact hS4.out⟩
theorem info_ed : (Try.prog.info? 41).map (fun i => (i.zero, i.size, i.bytes)) = some (some (.agg #[.int .i64 0, .int .i64 0]), 2, 16) := by kernel_rfl
theorem edcells_one (L : List Ed) : ∀ u ∈ L.flatMap Ed.cells, u.oneCell' = true := by
  intro u hu
  obtain ⟨x, _, hx⟩ := List.mem_flatMap.1 hu
  simp [Ed.cells] at hx
  rcases hx with rfl | rfl <;> rfl
/-- A copy of events. -/
theorem clone_ed (v : Value) (L : List Ed) (w : World) (hv : RL w v 2 L.length (L.flatMap Ed.cells)) (hl : L.length ≤ 4000) :
    Calls Try.prog 37 #[v] w fun e w' => ∃ a c, e = .returned (.slice a L.length c) ∧ Sep w' [vec 41 2 (.slice a L.length c) L.length (L.flatMap Ed.cells), old w] := by
  obtain ⟨n, hn⟩ : ∃ n, L.length = n := ⟨_, rfl⟩
  rw [hn] at hv hl ⊢
  replace hn := Lib.hid hn
  have hsrc := hv.srcA
  obtain ⟨hlen, a, c, rfl, hc, hna, hr⟩ := hv
  cases a with
  | none =>
    have hc0 := hna rfl
    subst hc0
    have hn0 : n = 0 := by omega
    subst hn0
    have hL : L.flatMap Ed.cells = [] := List.eq_nil_of_length_eq_zero (by simpa using hlen)
    rw [hL]
    clear hL hna hr hsrc hlen hc
    have heq := Lib.run_eql_slice_nil (P := Try.prog)
    go_enter Try.func37, Try.ntmps37
    go_wp2_with fail
    go_ret
    exact ⟨none, 0, rfl, (Sep.start w).vec_nil _ _⟩
  | some ad =>
    have h1 := Lib.hid (edcells_one L)
    obtain ⟨i0, hi, hz0, hz1, hz2⟩ := info_parts info_ed
    have hE := Lib.hid ((Sep.start w).vec_new (World.ownsRow_made w (e := 41) (size := 2) #[] 0 (Nat.le_refl _) (Nat.zero_le _) rfl) ((Below.refl _ _).alloc (Nat.le_refl _) (.cells #[] 41)))
    have hS2 := Lib.hid (show SrcA (w.alloc (.cells #[] 41)) 2 (.slice (some ad) n c) n (L.flatMap Ed.cells) from hsrc.below ((Below.refl _ _).alloc (Nat.le_refl _) _))
    clear hsrc hr hna hlen
    have heq := Lib.run_eql_slice_nil (P := Try.prog)
    go_enter Try.func37, Try.ntmps37
    go_wp2_with (at_builtin; refine wpList_append_sep hE.out rfl _ _ 33 rfl i0 _ 16 Try.underlying33 hi hz0 hz1 hz2 rfl (by decide) rfl n (L.flatMap Ed.cells) hS2.out h1.out ?c3 ?c4 ?_)
    case c3 => simp only [maxLen]; omega
    case c4 => omega
    intro a' c' w1 hS1
    try simp only [Nat.zero_add, List.nil_append] at hS1
    replace hS1 := Lib.hid hS1
    go_wp2_with fail
    go_ret
    exact ⟨a', c', by simp, hS1.out⟩
end Go.Proofs.Ytcnkmhfcgkbhbaa
namespace Go.Proofs
open Go.Shelf
def Try.sortEdges_ren : Go.Shelf.Ren := ⟨fun | 6 => 40 | 15 => 54 | 14 => 57 | 28 => 76 | 29 => 77 | 20 => 78 | 21 => 79 | 22 => 80 | 23 => 81 | 24 => 82 | 25 => 83 | 26 => 84 | 27 => 85 | 46 => 104 | 47 => 100 | 48 => 101 | 49 => 105 | 50 => 106 | 57 => 112 | n => n, fun | 22 => 33 | 24 => 41 | 25 => 73 | 3 => 3 | 39 => 84 | 0 => 0 | 53 => 103 | 55 => 105 | 4 => 4 | 46 => 96 | 45 => 95 | 50 => 67 | 5 => 5 | 9 => 9 | 66 => 122 | 70 => 126 | 76 => 132 | 77 => 133 | n => n, fun | n => n⟩
theorem Try.sortEdges : Go.Proofs.SlLaysF0.n6 Try.prog Try.sortEdges_ren := {
  mixed := by kernel_rfl
  f6 := ⟨Try.f40.name, by decide, Try.func40.trans (congrArg some (by kernel_rfl))⟩
  f14 := ⟨Try.f57.name, by decide, Try.func57.trans (congrArg some (by kernel_rfl))⟩
  f15 := Try.func54.trans (congrArg some (by kernel_rfl))
  f20 := ⟨Try.f78.name, by decide, Try.func78.trans (congrArg some (by kernel_rfl))⟩
  f21 := ⟨Try.f79.name, by decide, Try.func79.trans (congrArg some (by kernel_rfl))⟩
  f22 := ⟨Try.f80.name, by decide, Try.func80.trans (congrArg some (by kernel_rfl))⟩
  f23 := ⟨Try.f81.name, by decide, Try.func81.trans (congrArg some (by kernel_rfl))⟩
  f24 := ⟨Try.f82.name, by decide, Try.func82.trans (congrArg some (by kernel_rfl))⟩
  f25 := ⟨Try.f83.name, by decide, Try.func83.trans (congrArg some (by kernel_rfl))⟩
  f26 := ⟨Try.f84.name, by decide, Try.func84.trans (congrArg some (by kernel_rfl))⟩
  f27 := ⟨Try.f85.name, by decide, Try.func85.trans (congrArg some (by kernel_rfl))⟩
  f28 := Try.func76.trans (congrArg some (by kernel_rfl))
  f29 := Try.func77.trans (congrArg some (by kernel_rfl))
  f46 := ⟨Try.f104.name, by decide, Try.func104.trans (congrArg some (by kernel_rfl))⟩
  f47 := Try.func100.trans (congrArg some (by kernel_rfl))
  f48 := Try.func101.trans (congrArg some (by kernel_rfl))
  f49 := ⟨Try.f105.name, by decide, Try.func105.trans (congrArg some (by kernel_rfl))⟩
  f50 := ⟨Try.f106.name, by decide, Try.func106.trans (congrArg some (by kernel_rfl))⟩
  f57 := ⟨Try.f112.name, by decide, Try.func112.trans (congrArg some (by kernel_rfl))⟩
  t0 := Try.underlying0
  a0 := Try.isAgg0
  z0 := Try.sizeOf0
  v0 := Try.zeroValue0
  t3 := Try.underlying3
  a3 := Try.isAgg3
  z3 := Try.sizeOf3
  v3 := Try.zeroValue3
  t4 := Try.underlying4
  a4 := Try.isAgg4
  z4 := Try.sizeOf4
  v4 := Try.zeroValue4
  t5 := Try.underlying5
  a5 := Try.isAgg5
  z5 := Try.sizeOf5
  v5 := Try.zeroValue5
  t9 := Try.underlying9
  a9 := Try.isAgg9
  z9 := Try.sizeOf9
  v9 := Try.zeroValue9
  t22 := Try.underlying33
  a22 := Try.isAgg33
  z22 := Try.sizeOf33
  v22 := Try.zeroValue33
  t25 := Try.underlying73
  a25 := Try.isAgg73
  z25 := Try.sizeOf73
  v25 := Try.zeroValue73
  t39 := Try.underlying84
  a39 := Try.isAgg84
  z39 := Try.sizeOf84
  v39 := Try.zeroValue84
  t45 := Try.underlying95
  a45 := Try.isAgg95
  z45 := Try.sizeOf95
  v45 := Try.zeroValue95
  t46 := Try.underlying96
  a46 := Try.isAgg96
  z46 := Try.sizeOf96
  v46 := Try.zeroValue96
  t50 := Try.underlying67
  a50 := Try.isAgg67
  z50 := Try.sizeOf67
  v50 := Try.zeroValue67
  t53 := Try.underlying103
  a53 := Try.isAgg103
  z53 := Try.sizeOf103
  v53 := Try.zeroValue103
  t55 := Try.underlying105
  a55 := Try.isAgg105
  z55 := Try.sizeOf105
  v55 := Try.zeroValue105
  t66 := Try.underlying122
  a66 := Try.isAgg122
  z66 := Try.sizeOf122
  v66 := Try.zeroValue122
  t70 := Try.underlying126
  a70 := Try.isAgg126
  z70 := Try.sizeOf126
  v70 := Try.zeroValue126
  t76 := Try.underlying132
  a76 := Try.isAgg132
  z76 := Try.sizeOf132
  v76 := Try.zeroValue132
  t77 := Try.underlying133
  a77 := Try.isAgg133
  z77 := Try.sizeOf133
  v77 := Try.zeroValue133 }
def Try.cmpInts_ren : Go.Shelf.Ren := ⟨fun | 5 => 51 | 7 => 66 | n => n, fun | 22 => 3 | 3 => 3 | 4 => 4 | n => n, fun | n => n⟩
theorem Try.cmpInts : Go.Proofs.SlLaysC2.n5 Try.prog Try.cmpInts_ren := {
  mixed := by kernel_rfl
  f5 := ⟨Try.f51.name, by decide, Try.func51.trans (congrArg some (by kernel_rfl))⟩
  f7 := ⟨Try.f66.name, by decide, Try.func66.trans (congrArg some (by kernel_rfl))⟩
  t3 := Try.underlying3
  a3 := Try.isAgg3
  z3 := Try.sizeOf3
  v3 := Try.zeroValue3
  t4 := Try.underlying4
  a4 := Try.isAgg4
  z4 := Try.sizeOf4
  v4 := Try.zeroValue4
  t22 := Try.underlying3
  a22 := Try.isAgg3
  z22 := Try.sizeOf3
  v22 := Try.zeroValue3 }
def Try.sortPlain_ren : Go.Shelf.Ren := ⟨fun | 189 => 35 | 125 => 54 | 257 => 53 | 128 => 76 | 129 => 77 | 294 => 67 | 295 => 68 | 296 => 69 | 297 => 70 | 298 => 71 | 299 => 72 | 216 => 73 | 300 => 74 | 301 => 75 | 328 => 99 | 329 => 100 | 330 => 101 | 331 => 102 | 332 => 103 | 215 => 66 | 343 => 111 | n => n, fun | 28 => 30 | 3 => 3 | 46 => 84 | 0 => 0 | 51 => 103 | 53 => 105 | 4 => 4 | 183 => 96 | 182 => 95 | 131 => 67 | 5 => 5 | 9 => 9 | 218 => 122 | 222 => 126 | 228 => 132 | 229 => 133 | n => n, fun | n => n⟩
theorem Try.sortPlain : Go.Proofs.Lays.n189 Try.prog Try.sortPlain_ren := {
  mixed := by kernel_rfl
  f125 := Try.func54.trans (congrArg some (by kernel_rfl))
  f128 := Try.func76.trans (congrArg some (by kernel_rfl))
  f129 := Try.func77.trans (congrArg some (by kernel_rfl))
  f189 := Try.func35.trans (congrArg some (by kernel_rfl))
  f215 := Try.func66.trans (congrArg some (by kernel_rfl))
  f216 := Try.func73.trans (congrArg some (by kernel_rfl))
  f257 := Try.func53.trans (congrArg some (by kernel_rfl))
  f294 := Try.func67.trans (congrArg some (by kernel_rfl))
  f295 := Try.func68.trans (congrArg some (by kernel_rfl))
  f296 := Try.func69.trans (congrArg some (by kernel_rfl))
  f297 := Try.func70.trans (congrArg some (by kernel_rfl))
  f298 := Try.func71.trans (congrArg some (by kernel_rfl))
  f299 := Try.func72.trans (congrArg some (by kernel_rfl))
  f300 := Try.func74.trans (congrArg some (by kernel_rfl))
  f301 := Try.func75.trans (congrArg some (by kernel_rfl))
  f328 := Try.func99.trans (congrArg some (by kernel_rfl))
  f329 := Try.func100.trans (congrArg some (by kernel_rfl))
  f330 := Try.func101.trans (congrArg some (by kernel_rfl))
  f331 := Try.func102.trans (congrArg some (by kernel_rfl))
  f332 := Try.func103.trans (congrArg some (by kernel_rfl))
  f343 := Try.func111.trans (congrArg some (by kernel_rfl))
  t0 := Try.underlying0
  a0 := Try.isAgg0
  z0 := Try.sizeOf0
  v0 := Try.zeroValue0
  t3 := Try.underlying3
  a3 := Try.isAgg3
  z3 := Try.sizeOf3
  v3 := Try.zeroValue3
  t4 := Try.underlying4
  a4 := Try.isAgg4
  z4 := Try.sizeOf4
  v4 := Try.zeroValue4
  t5 := Try.underlying5
  a5 := Try.isAgg5
  z5 := Try.sizeOf5
  v5 := Try.zeroValue5
  t9 := Try.underlying9
  a9 := Try.isAgg9
  z9 := Try.sizeOf9
  v9 := Try.zeroValue9
  t28 := Try.underlying30
  a28 := Try.isAgg30
  z28 := Try.sizeOf30
  v28 := Try.zeroValue30
  t46 := Try.underlying84
  a46 := Try.isAgg84
  z46 := Try.sizeOf84
  v46 := Try.zeroValue84
  t51 := Try.underlying103
  a51 := Try.isAgg103
  z51 := Try.sizeOf103
  v51 := Try.zeroValue103
  t53 := Try.underlying105
  a53 := Try.isAgg105
  z53 := Try.sizeOf105
  v53 := Try.zeroValue105
  t131 := Try.underlying67
  a131 := Try.isAgg67
  z131 := Try.sizeOf67
  v131 := Try.zeroValue67
  t182 := Try.underlying95
  a182 := Try.isAgg95
  z182 := Try.sizeOf95
  v182 := Try.zeroValue95
  t183 := Try.underlying96
  a183 := Try.isAgg96
  z183 := Try.sizeOf96
  v183 := Try.zeroValue96
  t218 := Try.underlying122
  a218 := Try.isAgg122
  z218 := Try.sizeOf122
  v218 := Try.zeroValue122
  t222 := Try.underlying126
  a222 := Try.isAgg126
  z222 := Try.sizeOf126
  v222 := Try.zeroValue126
  t228 := Try.underlying132
  a228 := Try.isAgg132
  z228 := Try.sizeOf132
  v228 := Try.zeroValue132
  t229 := Try.underlying133
  a229 := Try.isAgg133
  z229 := Try.sizeOf133
  v229 := Try.zeroValue133 }
def Try.sortInts_ren : Go.Shelf.Ren := ⟨fun | 6 => 50 | 15 => 54 | 14 => 65 | 28 => 76 | 29 => 77 | 20 => 91 | 21 => 92 | 22 => 93 | 23 => 94 | 24 => 95 | 25 => 96 | 26 => 97 | 27 => 98 | 46 => 108 | 47 => 100 | 48 => 101 | 49 => 109 | 50 => 110 | 57 => 113 | n => n, fun | 22 => 30 | 24 => 3 | 25 => 47 | 3 => 3 | 39 => 84 | 0 => 0 | 53 => 103 | 55 => 105 | 4 => 4 | 46 => 96 | 45 => 95 | 50 => 67 | 5 => 5 | 9 => 9 | 66 => 122 | 70 => 126 | 76 => 132 | 77 => 133 | n => n, fun | n => n⟩
theorem Try.sortInts : Go.Proofs.SlLaysF.n6 Try.prog Try.sortInts_ren := {
  mixed := by kernel_rfl
  f6 := ⟨Try.f50.name, by decide, Try.func50.trans (congrArg some (by kernel_rfl))⟩
  f14 := ⟨Try.f65.name, by decide, Try.func65.trans (congrArg some (by kernel_rfl))⟩
  f15 := Try.func54.trans (congrArg some (by kernel_rfl))
  f20 := ⟨Try.f91.name, by decide, Try.func91.trans (congrArg some (by kernel_rfl))⟩
  f21 := ⟨Try.f92.name, by decide, Try.func92.trans (congrArg some (by kernel_rfl))⟩
  f22 := ⟨Try.f93.name, by decide, Try.func93.trans (congrArg some (by kernel_rfl))⟩
  f23 := ⟨Try.f94.name, by decide, Try.func94.trans (congrArg some (by kernel_rfl))⟩
  f24 := ⟨Try.f95.name, by decide, Try.func95.trans (congrArg some (by kernel_rfl))⟩
  f25 := ⟨Try.f96.name, by decide, Try.func96.trans (congrArg some (by kernel_rfl))⟩
  f26 := ⟨Try.f97.name, by decide, Try.func97.trans (congrArg some (by kernel_rfl))⟩
  f27 := ⟨Try.f98.name, by decide, Try.func98.trans (congrArg some (by kernel_rfl))⟩
  f28 := Try.func76.trans (congrArg some (by kernel_rfl))
  f29 := Try.func77.trans (congrArg some (by kernel_rfl))
  f46 := ⟨Try.f108.name, by decide, Try.func108.trans (congrArg some (by kernel_rfl))⟩
  f47 := Try.func100.trans (congrArg some (by kernel_rfl))
  f48 := Try.func101.trans (congrArg some (by kernel_rfl))
  f49 := ⟨Try.f109.name, by decide, Try.func109.trans (congrArg some (by kernel_rfl))⟩
  f50 := ⟨Try.f110.name, by decide, Try.func110.trans (congrArg some (by kernel_rfl))⟩
  f57 := ⟨Try.f113.name, by decide, Try.func113.trans (congrArg some (by kernel_rfl))⟩
  t0 := Try.underlying0
  a0 := Try.isAgg0
  z0 := Try.sizeOf0
  v0 := Try.zeroValue0
  t3 := Try.underlying3
  a3 := Try.isAgg3
  z3 := Try.sizeOf3
  v3 := Try.zeroValue3
  t4 := Try.underlying4
  a4 := Try.isAgg4
  z4 := Try.sizeOf4
  v4 := Try.zeroValue4
  t5 := Try.underlying5
  a5 := Try.isAgg5
  z5 := Try.sizeOf5
  v5 := Try.zeroValue5
  t9 := Try.underlying9
  a9 := Try.isAgg9
  z9 := Try.sizeOf9
  v9 := Try.zeroValue9
  t22 := Try.underlying30
  a22 := Try.isAgg30
  z22 := Try.sizeOf30
  v22 := Try.zeroValue30
  a24 := Try.isAgg3
  z24 := Try.sizeOf3
  t25 := Try.underlying47
  a25 := Try.isAgg47
  z25 := Try.sizeOf47
  v25 := Try.zeroValue47
  t39 := Try.underlying84
  a39 := Try.isAgg84
  z39 := Try.sizeOf84
  v39 := Try.zeroValue84
  t45 := Try.underlying95
  a45 := Try.isAgg95
  z45 := Try.sizeOf95
  v45 := Try.zeroValue95
  t46 := Try.underlying96
  a46 := Try.isAgg96
  z46 := Try.sizeOf96
  v46 := Try.zeroValue96
  t50 := Try.underlying67
  a50 := Try.isAgg67
  z50 := Try.sizeOf67
  v50 := Try.zeroValue67
  t53 := Try.underlying103
  a53 := Try.isAgg103
  z53 := Try.sizeOf103
  v53 := Try.zeroValue103
  t55 := Try.underlying105
  a55 := Try.isAgg105
  z55 := Try.sizeOf105
  v55 := Try.zeroValue105
  t66 := Try.underlying122
  a66 := Try.isAgg122
  z66 := Try.sizeOf122
  v66 := Try.zeroValue122
  t70 := Try.underlying126
  a70 := Try.isAgg126
  z70 := Try.sizeOf126
  v70 := Try.zeroValue126
  t76 := Try.underlying132
  a76 := Try.isAgg132
  z76 := Try.sizeOf132
  v76 := Try.zeroValue132
  t77 := Try.underlying133
  a77 := Try.isAgg133
  z77 := Try.sizeOf133
  v77 := Try.zeroValue133 }
def Try.sortIntsZ_ren : Go.Shelf.Ren := ⟨fun | 6 => 50 | 15 => 54 | 14 => 65 | 28 => 76 | 29 => 77 | 20 => 91 | 21 => 92 | 22 => 93 | 23 => 94 | 24 => 95 | 25 => 96 | 26 => 97 | 27 => 98 | 46 => 108 | 47 => 100 | 48 => 101 | 49 => 109 | 50 => 110 | 57 => 113 | n => n, fun | 22 => 30 | 24 => 3 | 25 => 47 | 3 => 3 | 39 => 84 | 0 => 0 | 53 => 103 | 55 => 105 | 4 => 4 | 46 => 96 | 45 => 95 | 50 => 67 | 5 => 5 | 9 => 9 | 66 => 122 | 70 => 126 | 76 => 132 | 77 => 133 | n => n, fun | n => n⟩
theorem Try.sortIntsZ : Go.Proofs.SlLaysF0.n6 Try.prog Try.sortIntsZ_ren := {
  mixed := by kernel_rfl
  f6 := ⟨Try.f50.name, by decide, Try.func50.trans (congrArg some (by kernel_rfl))⟩
  f14 := ⟨Try.f65.name, by decide, Try.func65.trans (congrArg some (by kernel_rfl))⟩
  f15 := Try.func54.trans (congrArg some (by kernel_rfl))
  f20 := ⟨Try.f91.name, by decide, Try.func91.trans (congrArg some (by kernel_rfl))⟩
  f21 := ⟨Try.f92.name, by decide, Try.func92.trans (congrArg some (by kernel_rfl))⟩
  f22 := ⟨Try.f93.name, by decide, Try.func93.trans (congrArg some (by kernel_rfl))⟩
  f23 := ⟨Try.f94.name, by decide, Try.func94.trans (congrArg some (by kernel_rfl))⟩
  f24 := ⟨Try.f95.name, by decide, Try.func95.trans (congrArg some (by kernel_rfl))⟩
  f25 := ⟨Try.f96.name, by decide, Try.func96.trans (congrArg some (by kernel_rfl))⟩
  f26 := ⟨Try.f97.name, by decide, Try.func97.trans (congrArg some (by kernel_rfl))⟩
  f27 := ⟨Try.f98.name, by decide, Try.func98.trans (congrArg some (by kernel_rfl))⟩
  f28 := Try.func76.trans (congrArg some (by kernel_rfl))
  f29 := Try.func77.trans (congrArg some (by kernel_rfl))
  f46 := ⟨Try.f108.name, by decide, Try.func108.trans (congrArg some (by kernel_rfl))⟩
  f47 := Try.func100.trans (congrArg some (by kernel_rfl))
  f48 := Try.func101.trans (congrArg some (by kernel_rfl))
  f49 := ⟨Try.f109.name, by decide, Try.func109.trans (congrArg some (by kernel_rfl))⟩
  f50 := ⟨Try.f110.name, by decide, Try.func110.trans (congrArg some (by kernel_rfl))⟩
  f57 := ⟨Try.f113.name, by decide, Try.func113.trans (congrArg some (by kernel_rfl))⟩
  t0 := Try.underlying0
  a0 := Try.isAgg0
  z0 := Try.sizeOf0
  v0 := Try.zeroValue0
  t3 := Try.underlying3
  a3 := Try.isAgg3
  z3 := Try.sizeOf3
  v3 := Try.zeroValue3
  t4 := Try.underlying4
  a4 := Try.isAgg4
  z4 := Try.sizeOf4
  v4 := Try.zeroValue4
  t5 := Try.underlying5
  a5 := Try.isAgg5
  z5 := Try.sizeOf5
  v5 := Try.zeroValue5
  t9 := Try.underlying9
  a9 := Try.isAgg9
  z9 := Try.sizeOf9
  v9 := Try.zeroValue9
  t22 := Try.underlying30
  a22 := Try.isAgg30
  z22 := Try.sizeOf30
  v22 := Try.zeroValue30
  t25 := Try.underlying47
  a25 := Try.isAgg47
  z25 := Try.sizeOf47
  v25 := Try.zeroValue47
  t39 := Try.underlying84
  a39 := Try.isAgg84
  z39 := Try.sizeOf84
  v39 := Try.zeroValue84
  t45 := Try.underlying95
  a45 := Try.isAgg95
  z45 := Try.sizeOf95
  v45 := Try.zeroValue95
  t46 := Try.underlying96
  a46 := Try.isAgg96
  z46 := Try.sizeOf96
  v46 := Try.zeroValue96
  t50 := Try.underlying67
  a50 := Try.isAgg67
  z50 := Try.sizeOf67
  v50 := Try.zeroValue67
  t53 := Try.underlying103
  a53 := Try.isAgg103
  z53 := Try.sizeOf103
  v53 := Try.zeroValue103
  t55 := Try.underlying105
  a55 := Try.isAgg105
  z55 := Try.sizeOf105
  v55 := Try.zeroValue105
  t66 := Try.underlying122
  a66 := Try.isAgg122
  z66 := Try.sizeOf122
  v66 := Try.zeroValue122
  t70 := Try.underlying126
  a70 := Try.isAgg126
  z70 := Try.sizeOf126
  v70 := Try.zeroValue126
  t76 := Try.underlying132
  a76 := Try.isAgg132
  z76 := Try.sizeOf132
  v76 := Try.zeroValue132
  t77 := Try.underlying133
  a77 := Try.isAgg133
  z77 := Try.sizeOf133
  v77 := Try.zeroValue133 }
def Try.compactInts_ren : Go.Shelf.Ren := ⟨fun | 20 => 52 | n => n, fun | 22 => 30 | 3 => 3 | 4 => 4 | 0 => 0 | n => n, fun | n => n⟩
theorem Try.compactInts : Go.Proofs.Lays2.n20 Try.prog Try.compactInts_ren := {
  mixed := by kernel_rfl
  f20 := Try.func52.trans (congrArg some (by kernel_rfl))
  t0 := Try.underlying0
  a0 := Try.isAgg0
  z0 := Try.sizeOf0
  v0 := Try.zeroValue0
  t3 := Try.underlying3
  a3 := Try.isAgg3
  z3 := Try.sizeOf3
  v3 := Try.zeroValue3
  t4 := Try.underlying4
  a4 := Try.isAgg4
  z4 := Try.sizeOf4
  v4 := Try.zeroValue4
  t22 := Try.underlying30
  a22 := Try.isAgg30
  z22 := Try.sizeOf30
  v22 := Try.zeroValue30
  i3 := by kernel_rfl }
end Go.Proofs
namespace Go.Proofs.Ytcnkmhfcgkbhbaa
set_option linter.unusedSimpArgs false
set_option linter.unusedVariables false
set_option linter.unnecessarySimpa false
open Go.RowKit Go.Shelf Go.Sort
theorem compareI_any (x y : Int) (w : World) : Calls Try.prog 51 #[.int .i64 x, .int .i64 y] w fun e w' => e = .returned (.int .i64 (Lib.compareInt x y)) ∧ w' = w := AnyG.cmp_Compare_int Try.cmpInts x y w
theorem eg_cmp : ∀ args w, (callFunc 51 args).run Try.prog w = .ok (.enter 51 args) w := enters_of Try.func51 (by kernel_rfl) rfl
theorem sortInts_any (a : Option Addr) (n c : Nat) (xs : List Int) (w : World) (rs : List Res) (hS : Sep w (vec 3 1 (.slice a n c) n (xs.map (Value.int .i64)) :: rs)) (hl : xs.length = n) (hn : n ≤ 1000000) :
    Calls Try.prog 50 #[.slice a n c, .func (.func 51) #[] #[]] w fun e w' => e = .returned (.tuple #[]) ∧ ∃ ys : List Int, ys.Perm xs ∧ ys.Pairwise (· ≤ ·) ∧ Sep w' (vec 3 1 (.slice a n c) n (ys.map (Value.int .i64)) :: rs) := by
  rcases Nat.eq_zero_or_pos n with h0 | h0
  · subst h0
    have hx := List.eq_nil_of_length_eq_zero hl
    subst hx
    refine (AnyF.slices_SortFunc_none Try.sortIntsZ a c _ w).mono ?_
    rintro e w' ⟨rfl, rfl⟩
    exact ⟨rfl, [], List.Perm.refl _, List.Pairwise.nil, hS⟩
  · obtain ⟨g, rfl⟩ : ∃ g, a = some ⟨g, 0, none⟩ := by
      rcases hS.gvec.2 with ⟨_, h1⟩ | ⟨g, cap, cur, hv, _⟩
      · omega
      · injection hv with e1 _ _
        exact ⟨g, e1⟩
    obtain ⟨hH, hg⟩ := hS.vec_holds1 (Value.int .i64) xs hl
    have hcmp : CmpLays1 Try.prog 51 #[] (Value.int .i64) Lib.compareInt g 0 xs.toArray.size w := fun m os dk _ x y => (compareI_any x y _).mono fun e w' h => ⟨h.1, 0, #[], by rw [h.2, grow_empty]; rfl⟩
    have hcon := Any.slices_SortFunc Try.sortInts (Value.int .i64) (fun _ => rfl) Lib.compareInt swo_int 51 #[] g 0 c xs.toArray w eg_cmp hcmp hH hg (by simp; omega)
    rw [show xs.toArray.size = n by simp [hl]] at hcon
    refine Calls.mono (show Calls Try.prog 50 _ w _ from hcon) ?_
    rintro e w' ⟨rfl, d', m, os, hp, hs, rfl⟩
    rw [show n = xs.toArray.size by simp [hl]] at hp hs
    obtain ⟨hsz, hperm⟩ := perm_list hp
    have hsrt := sorted_list hsz hs
    refine ⟨rfl, d'.toList, by simpa using hperm, hsrt.imp (fun {a b} h => by rw [lt_int] at h; simpa using h), ?_⟩
    have := hS.vec_row (Value.int .i64) m d' os (by rw [hsz]; simp [hl])
    exact this
end Go.Proofs.Ytcnkmhfcgkbhbaa
namespace Go.Proofs.Ytcnkmhfcgkbhbaa
set_option linter.unusedSimpArgs false
set_option linter.unusedVariables false
set_option linter.unnecessarySimpa false
open Go.RowKit Go.Shelf Go.Sort
/-- Of two numbers the first one that is not 0. -/
theorem or2_any (x y : Int) (g c : Nat) (w : World) (hx : w.cell? ⟨g, 0, none⟩ = some (.int .i64 x)) (hy : w.cell? ⟨g, 1, none⟩ = some (.int .i64 y)) :
    Calls Try.prog 58 #[.slice (some ⟨g, 0, none⟩) 2 c] w fun e w' => e = .returned (.int .i64 (if x ≠ 0 then x else y)) ∧ w' = w := by
  by_cases h : x = 0
  · subst h
    rw [if_neg (by simp)]
    by_cases h2 : y = 0
    · subst h2
      go_enter Try.func58, Try.ntmps58
      go_wp2_with fail
      go_loopw [8] (fun i wr => ∃ k : Nat, k ≤ 2 ∧ i = .int .i64 k ∧ wr = w) (fun i _ => 2 - (intOf i).toNat)
      case atStart => exact ⟨0, by omega, rfl, rfl⟩
      case round =>
        obtain ⟨k, hk, rfl, rfl⟩ := hrel
        have : k = 0 ∨ k = 1 ∨ k = 2 := by omega
        rcases this with rfl | rfl | rfl
        · go_wp2_with fail
          go_roundw
          case rel => exact ⟨1, by omega, by go_num, by first | rfl | trivial⟩
          case measure => simp [intOf]
        · go_wp2_with fail
          go_roundw
          case rel => exact ⟨2, by omega, by go_num, by first | rfl | trivial⟩
          case measure => simp [intOf]
        · go_wp2_with fail
          go_ret
          exact ⟨rfl, rfl⟩
    · have h2' : (y != 0) = true := by simpa using h2
      go_enter Try.func58, Try.ntmps58
      go_wp2_with fail
      go_loopw [8] (fun i wr => ∃ k : Nat, k ≤ 1 ∧ i = .int .i64 k ∧ wr = w) (fun i _ => 2 - (intOf i).toNat)
      case atStart => exact ⟨0, by omega, rfl, rfl⟩
      case round =>
        obtain ⟨k, hk, rfl, rfl⟩ := hrel
        have : k = 0 ∨ k = 1 := by omega
        rcases this with rfl | rfl
        · go_wp2_with fail
          go_roundw
          case rel => exact ⟨1, by omega, by go_num, by first | rfl | trivial⟩
          case measure => simp [intOf]
        · go_wp2_with fail
          go_ret
          exact ⟨rfl, rfl⟩
  · rw [if_pos h]
    have h' : (x != 0) = true := by simpa using h
    go_enter Try.func58, Try.ntmps58
    go_wp2_with fail
    go_loopw [8] (fun i wr => i = .int .i64 0 ∧ wr = w) (fun i _ => 2 - (intOf i).toNat)
    case atStart => exact ⟨rfl, rfl⟩
    case round =>
      obtain ⟨rfl, rfl⟩ := hrel
      go_wp2_with fail
      go_ret
      exact ⟨rfl, rfl⟩
/-- What the sort's worlds are: draws, and new blocks. -/
theorem sgrow_alloc {w w' : World} (h : ∃ q os, w' = grow (w.drewN q) os) (o : Obj) : ∃ q os, w'.alloc o = grow (w.drewN q) os := by
  obtain ⟨q, os, rfl⟩ := h
  exact ⟨q, os ++ #[o], by rw [alloc_eq_grow, grow_grow]⟩
theorem sgrow_drew {w w' : World} (h : ∃ q os, w' = grow (w.drewN q) os) : ∃ q os, w'.drew = grow (w.drewN q) os := by
  obtain ⟨q, os, rfl⟩ := h
  exact ⟨q + 1, os, rfl⟩
/-- How edges compare. -/
def cmpE (a b : Ed) : Int := if Lib.compareInt a.from_ b.from_ ≠ 0 then Lib.compareInt a.from_ b.from_ else Lib.compareInt a.tgt b.tgt
theorem box2e (w : World) (b0 b1 : Array Value) : Sep ((w.alloc (.cells b0 41)).alloc (.cells b1 41)) [blk (w.heap.size + 1) 41 b1, blk w.heap.size 41 b0, old w] := by
  have := ((Sep.start w).alloc b0 41).alloc b1 41
  rw [World.size_alloc] at this
  exact this
set_option maxHeartbeats 1000000 in
theorem compareE_any (a b : Ed) (W : World) : Calls Try.prog 41 #[val_ed a, val_ed b] W fun e w' => e = .returned (.int .i64 (cmpE a b)) ∧ ∃ q os', w' = grow (W.drewN q) os' := by
  obtain ⟨af, at_⟩ := a
  obtain ⟨bf, bt⟩ := b
  unfold cmpE val_ed
  have H1 := Lib.hid (fun V => compareI_any af bf V)
  have H2 := Lib.hid (fun V => compareI_any at_ bt V)
  simp only
  generalize Lib.compareInt af bf = c1 at *
  generalize Lib.compareInt at_ bt = c2 at *
  obtain ⟨R, hR⟩ : ∃ R, (if c1 ≠ 0 then c1 else c2) = R := ⟨_, rfl⟩
  have HO := Lib.hid (show ∀ (g c : Nat) (w : World), w.cell? ⟨g, 0, none⟩ = some (.int .i64 c1) → w.cell? ⟨g, 1, none⟩ = some (.int .i64 c2) → Calls Try.prog 58 #[.slice (some ⟨g, 0, none⟩) 2 c] w fun e w' => e = .returned (.int .i64 R) ∧ w' = w from fun g c w h1 h2 => by rw [← hR]; exact or2_any c1 c2 g c w h1 h2)
  rw [hR]
  clear hR
  have hB := Lib.hid (box2e W #[.int .i64 af, .int .i64 at_] #[.int .i64 bf, .int .i64 bt])
  have hG := Lib.hid (sgrow_drew (sgrow_alloc (sgrow_alloc (⟨0, #[], (grow_empty _).symm⟩ : ∃ q os, W = grow (W.drewN q) os) (.cells #[.int .i64 af, .int .i64 at_] 41)) (.cells #[.int .i64 bf, .int .i64 bt] 41)))
  go_enter Try.func41, Try.ntmps41
  go_wp2_with fail
  have hS := Lib.hid (show (fun V : World => Sep V [blk (W.heap.size + 1) 41 #[.int .i64 bf, .int .i64 bt], blk W.heap.size 41 #[.int .i64 af, .int .i64 at_], old W]) _ from hB.out.drew)
  refine hl_begin (fun V : World => Sep V [blk (W.heap.size + 1) 41 #[.int .i64 bf, .int .i64 bt], blk W.heap.size 41 #[.int .i64 af, .int .i64 at_], old W]) [(0, true), (1, true), (2, true), (3, true), (5, true), (6, true), (7, true), (8, true), (4, false), (9, false), (10, false), (11, false), (12, true)] (by kernel_rfl) (by kernel_rfl) (by kernel_rfl) rfl (fun _ _ _ _ _ h => h) hS.out ?_
  change HL _ _ _ _ _ _ (World.drew _)
  generalize World.drew _ = wd at *
  refine hl_take ?v1 rfl (by kernel_rfl) ?y1 ?z1
  case y1 => intro W hW; skip; replace hW := Lib.hid hW; go_simp; try rfl
  case z1 =>
  simp only [Act.put, List.setIfInBounds_toArray, List.set_cons_succ, List.set_cons_zero, List.getElem_toArray, List.getElem_cons_zero, List.getElem_cons_succ]
  refine hl_take ?v2 rfl (by kernel_rfl) ?y2 ?z2
  case y2 => intro W hW; obtain ⟨_, c0, c1, _⟩ := (show Sep _ _ from hW).b2; obtain ⟨_, d0, d1, _⟩ := (show Sep _ _ from hW).to1.b2; replace hW := Lib.hid hW; go_simp; try rfl
  case z2 =>
  simp only [Act.put, List.setIfInBounds_toArray, List.set_cons_succ, List.set_cons_zero, List.getElem_toArray, List.getElem_cons_zero, List.getElem_cons_succ]
  refine hl_take ?v3 rfl (by kernel_rfl) ?y3 ?z3
  case y3 => intro W hW; skip; replace hW := Lib.hid hW; go_simp; try rfl
  case z3 =>
  simp only [Act.put, List.setIfInBounds_toArray, List.set_cons_succ, List.set_cons_zero, List.getElem_toArray, List.getElem_cons_zero, List.getElem_cons_succ]
  refine hl_take ?v4 rfl (by kernel_rfl) ?y4 ?z4
  case y4 => intro W hW; obtain ⟨_, c0, c1, _⟩ := (show Sep _ _ from hW).b2; obtain ⟨_, d0, d1, _⟩ := (show Sep _ _ from hW).to1.b2; replace hW := Lib.hid hW; go_simp; try rfl
  case z4 =>
  simp only [Act.put, List.setIfInBounds_toArray, List.set_cons_succ, List.set_cons_zero, List.getElem_toArray, List.getElem_cons_zero, List.getElem_cons_succ]
  refine hl_take ?v5 rfl (by kernel_rfl) ?y5 ?z5
  case y5 => intro W hW; skip; replace hW := Lib.hid hW; go_simp; try rfl
  case z5 =>
  simp only [Act.put, List.setIfInBounds_toArray, List.set_cons_succ, List.set_cons_zero, List.getElem_toArray, List.getElem_cons_zero, List.getElem_cons_succ]
  refine hl_take ?v6 rfl (by kernel_rfl) ?y6 ?z6
  case y6 => intro W hW; obtain ⟨_, c0, c1, _⟩ := (show Sep _ _ from hW).b2; obtain ⟨_, d0, d1, _⟩ := (show Sep _ _ from hW).to1.b2; replace hW := Lib.hid hW; go_simp; try rfl
  case z6 =>
  simp only [Act.put, List.setIfInBounds_toArray, List.set_cons_succ, List.set_cons_zero, List.getElem_toArray, List.getElem_cons_zero, List.getElem_cons_succ]
  refine hl_take ?v7 rfl (by kernel_rfl) ?y7 ?z7
  case y7 => intro W hW; skip; replace hW := Lib.hid hW; go_simp; try rfl
  case z7 =>
  simp only [Act.put, List.setIfInBounds_toArray, List.set_cons_succ, List.set_cons_zero, List.getElem_toArray, List.getElem_cons_zero, List.getElem_cons_succ]
  refine hl_take ?v8 rfl (by kernel_rfl) ?y8 ?z8
  case y8 => intro W hW; obtain ⟨_, c0, c1, _⟩ := (show Sep _ _ from hW).b2; obtain ⟨_, d0, d1, _⟩ := (show Sep _ _ from hW).to1.b2; replace hW := Lib.hid hW; go_simp; try rfl
  case z8 =>
  simp only [Act.put, List.setIfInBounds_toArray, List.set_cons_succ, List.set_cons_zero, List.getElem_toArray, List.getElem_cons_zero, List.getElem_cons_succ]
  refine hl_one rfl (by kernel_rfl) (fun K hK => ?_)
  go_simp
  refine (H1.out _).mono ?_
  rintro e w1 ⟨rfl, hw⟩
  subst hw
  refine hK.out _ _ hS.out ?_
  clear hK K
  try simp only [Act.put, List.setIfInBounds_toArray, List.set_cons_succ, List.set_cons_zero, List.getElem_toArray, List.getElem_cons_zero, List.getElem_cons_succ]
  refine hl_one rfl (by kernel_rfl) (fun K hK => ?_)
  go_simp
  refine (H2.out _).mono ?_
  rintro e w1 ⟨rfl, hw⟩
  subst hw
  refine hK.out _ _ hS.out ?_
  clear hK K
  try simp only [Act.put, List.setIfInBounds_toArray, List.set_cons_succ, List.set_cons_zero, List.getElem_toArray, List.getElem_cons_zero, List.getElem_cons_succ]
  refine hl_one rfl (by kernel_rfl) (fun K hK => ?_)
  go_simp
  have hN := Lib.hid ((show Sep _ _ from hS.out).alloc #[.int .i64 c1, .int .i64 c2] 3)
  replace hG := Lib.hid (sgrow_alloc hG.out (.cells #[.int .i64 c1, .int .i64 c2] 3))
  replace hS := Lib.hid (show (fun V : World => Sep V [blk (W.heap.size + 1) 41 #[.int .i64 bf, .int .i64 bt], blk W.heap.size 41 #[.int .i64 af, .int .i64 at_], old W]) _ from (show Sep _ _ from hS.out).allocG (.cells #[.int .i64 c1, .int .i64 c2] 3))
  refine hK.out _ _ hS.out ?_
  clear hK K
  try simp only [Act.put, List.setIfInBounds_toArray, List.set_cons_succ, List.set_cons_zero, List.getElem_toArray, List.getElem_cons_zero, List.getElem_cons_succ]
  refine hl_one rfl (by kernel_rfl) (fun K hK => ?_)
  go_simp
  obtain ⟨_, e0, e1, _⟩ := hN.out.b2
  refine (HO.out _ _ _ e0 e1).mono ?_
  rintro e w1 ⟨rfl, hw⟩
  subst hw
  refine hK.out _ _ hS.out ?_
  clear hK K
  try simp only [Act.put, List.setIfInBounds_toArray, List.set_cons_succ, List.set_cons_zero, List.getElem_toArray, List.getElem_cons_zero, List.getElem_cons_succ]
  refine hl_take ?v9 rfl (by kernel_rfl) ?y9 ?z9
  case y9 => intro W hW; skip; replace hW := Lib.hid hW; go_simp; try rfl
  case z9 =>
  simp only [Act.put, List.setIfInBounds_toArray, List.set_cons_succ, List.set_cons_zero, List.getElem_toArray, List.getElem_cons_zero, List.getElem_cons_succ]
  refine hl_done ?_
  skip
  go_wp2_with fail
  go_ret
  exact ⟨rfl, hG.out⟩
theorem compI_lt (x y : Int) : (Lib.compareInt x y < 0) = (x < y) ∧ (Lib.compareInt x y = 0) = (x = y) := by
  unfold Lib.compareInt
  by_cases h1 : x < y
  · simp [h1]; omega
  · by_cases h2 : y < x
    · simp [h1, h2]; omega
    · simp [h1, h2]; omega
def ltE (a b : Ed) : Prop := a.from_ < b.from_ ∨ a.from_ = b.from_ ∧ a.tgt < b.tgt
theorem ltE_iff (a b : Ed) : ltOf cmpE a b = true ↔ ltE a b := by
  unfold ltOf cmpE ltE
  obtain ⟨h1, h2⟩ := compI_lt a.from_ b.from_
  obtain ⟨h3, h4⟩ := compI_lt a.tgt b.tgt
  rw [decide_eq_true_iff]
  by_cases h : Lib.compareInt a.from_ b.from_ = 0
  · rw [if_neg (by simpa using h), h3]
    rw [h2] at h
    constructor
    · exact fun hh => .inr ⟨h, hh⟩
    · rintro (hh | ⟨_, hh⟩)
      · omega
      · exact hh
  · rw [if_pos h, h1]
    rw [h2] at h
    constructor
    · exact .inl
    · rintro (hh | ⟨hh, _⟩)
      · exact hh
      · exact absurd hh h
theorem swo_ed : SWO (ltOf cmpE) := by
  refine ⟨fun x => ?_, fun x y z h1 h2 => ?_, fun x y z h1 h2 => ?_⟩
  · cases h : ltOf cmpE x x with
    | false => rfl
    | true => have := (ltE_iff x x).1 h; unfold ltE at this; omega
  · rw [ltE_iff] at *; unfold ltE at *; omega
  · rw [← Bool.not_eq_true] at *; rw [ltE_iff] at *; unfold ltE at *; omega
theorem eg_cmpE : ∀ args w, (callFunc 41 args).run Try.prog w = .ok (.enter 41 args) w := enters_of Try.func41 (by kernel_rfl) rfl
theorem isAggE : ∀ w, (isAgg 41).run Try.prog w = .ok true w := fun w => by kernel_rfl
theorem sizeOfE : ∀ w, (Go.sizeOf 41).run Try.prog w = .ok 2 w := fun w => by kernel_rfl
def leE (a b : Ed) : Prop := a.from_ < b.from_ ∨ a.from_ = b.from_ ∧ a.tgt ≤ b.tgt
theorem sortEdges_any (a : Option Addr) (n c : Nat) (xs : List Ed) (w : World) (rs : List Res) (hS : Sep w (vec 41 2 (.slice a n c) n (xs.flatMap Ed.cells) :: rs)) (hl : xs.length = n) (hn : n ≤ 1000000) :
    Calls Try.prog 40 #[.slice a n c, .func (.func 41) #[] #[]] w fun e w' => e = .returned (.tuple #[]) ∧ ∃ ys : List Ed, ys.Perm xs ∧ ys.Pairwise leE ∧ Sep w' (vec 41 2 (.slice a n c) n (ys.flatMap Ed.cells) :: rs) := by
  rcases Nat.eq_zero_or_pos n with h0 | h0
  · subst h0
    have hx := List.eq_nil_of_length_eq_zero hl
    subst hx
    refine (AnyF.slices_SortFunc_none Try.sortEdges a c _ w).mono ?_
    rintro e w' ⟨rfl, rfl⟩
    exact ⟨rfl, [], List.Perm.refl _, List.Pairwise.nil, hS⟩
  · obtain ⟨g, rfl⟩ : ∃ g, a = some ⟨g, 0, none⟩ := by
      rcases hS.gvec.2 with ⟨_, h1⟩ | ⟨g, cap, cur, hv, _⟩
      · omega
      · injection hv with e1 _ _
        exact ⟨g, e1⟩
    obtain ⟨hH, hg⟩ := hS.vec_holdsK Ed.cells ed_len xs
    have hcmp : CmpLays Try.prog 41 #[] Ed.cells 2 cmpE g 0 xs.toArray.size w := fun m os dk _ x y => compareE_any x y _
    have hcon := AnyQ.slices_SortFunc Try.sortEdges 2 isAggE sizeOfE Ed.cells ed_len (fun x v hv => by simp [Ed.cells] at hv; rcases hv with rfl | rfl <;> rfl) cmpE swo_ed 41 #[] g 0 c xs.toArray w eg_cmpE hcmp hH hg (by simp; omega)
    rw [show xs.toArray.size = n by simp [hl]] at hcon
    refine Calls.mono (show Calls Try.prog 40 _ w _ from hcon) ?_
    rintro e w' ⟨rfl, d', m, os, hp, hs, rfl⟩
    rw [show n = xs.toArray.size by simp [hl]] at hp hs
    obtain ⟨hsz, hperm⟩ := perm_list hp
    have hsrt := sorted_list hsz hs
    refine ⟨rfl, d'.toList, by simpa using hperm, hsrt.imp (fun {a b} h => ?_), ?_⟩
    · have h2 : ¬ ltE b a := fun hh => by rw [(ltE_iff b a).2 hh] at h; cases h
      unfold ltE at h2
      unfold leE
      omega
    · have := hS.vec_row id m (flatK Ed.cells 2 d') os (by rw [size_flatK, hsz]; simp [hl])
      rw [flatK_list Ed.cells 2 ed_len d', List.map_id] at this
      exact this
/-- Ints sorted. -/
theorem sortPlain_any (a : Option Addr) (n c : Nat) (xs : List Int) (w : World) (rs : List Res) (hS : Sep w (vec 3 1 (.slice a n c) n (xs.map (Value.int .i64)) :: rs)) (hl : xs.length = n) (h0 : 0 < n) (hn : n ≤ 1000000) :
    Calls Try.prog 35 #[.slice a n c] w fun e w' => e = .returned (.tuple #[]) ∧ Sep w' (vec 3 1 (.slice a n c) n ((xs.mergeSort fun x y => decide (x ≤ y)).map (Value.int .i64)) :: rs) := by
  obtain ⟨g, rfl⟩ : ∃ g, a = some ⟨g, 0, none⟩ := by
    rcases hS.gvec.2 with ⟨_, h1⟩ | ⟨g, cap, cur, hv, _⟩
    · omega
    · injection hv with e1 _ _
      exact ⟨g, e1⟩
  obtain ⟨hH, hg⟩ := hS.vec_holds1 (Value.int .i64) xs hl
  have hcon := Any.slices_Sort_int Try.sortPlain g 0 c xs w hH hg (by omega)
  rw [hl] at hcon
  refine Calls.mono (show Calls Try.prog 35 _ w _ from hcon) ?_
  rintro e w' ⟨rfl, m, os, rfl⟩
  have hlen : (xs.mergeSort fun x y => decide (x ≤ y)).length = n := by rw [(List.mergeSort_perm xs _).length_eq, hl]
  refine ⟨rfl, ?_⟩
  have := hS.vec_row (Value.int .i64) m (xs.mergeSort fun x y => decide (x ≤ y)).toArray os (by simpa using hlen)
  simpa using this
end Go.Proofs.Ytcnkmhfcgkbhbaa
