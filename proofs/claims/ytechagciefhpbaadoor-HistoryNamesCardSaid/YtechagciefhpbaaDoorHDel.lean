/-
  IndexFunc and DeleteFunc at events. No condition beside a list that can be read.
-/
import Derived.Test.YtechagciefhpbaaDoorHResp
import Derived.Test.YtechagciefhpbaaDoorDelG
namespace Go.Proofs.YtechagciefhpbaaDoor
set_option linter.unusedSimpArgs false
set_option linter.unusedVariables false
set_option linter.unnecessarySimpa false
open Go.RowKit
def val_ev : Ev → Value := fun x => match x with | ⟨call, thread, invoke, ⟨kind, txn, t_, r, mode, code⟩⟩ => .agg #[.int .i64 call, .int .i64 thread, .bool invoke, .int .i64 kind, .int .i64 txn, .int .i64 t_, .int .i64 r, .int .i64 mode, .int .i64 code]
def Pred_ev (g : Nat) (lb : Array Value) (p : Ev → Bool) (l : List Ev) (w : World) : Prop :=
  ∀ (W : World) (x : Ev), x ∈ l → Below w.heap.size w W → Calls Tryd.prog g (#[val_ev x] ++ lb) W fun e w' => e = .returned (.bool (p x)) ∧ Below W.heap.size W w'
theorem cells_ev {w : World} {a : Option Addr} {n c : Nat} {l : List Ev} (hv : RL w (.slice a n c) 9 n (l.flatMap Ev.cells)) (hn : l.length = n) (h0 : 0 < n) : ∃ b off, a = some ⟨b, off, none⟩ ∧ b < w.heap.size ∧ ∀ k x, l[k]? = some x → ∀ j u, (Ev.cells x)[j]? = some u → w.cell? ⟨b, off + (k * 9 + j), none⟩ = some u := by
  subst hn
  obtain ⟨b, off, c', hv', _, hb, h⟩ := RL.at_ ev_len hv h0
  injection hv' with e1 _ _
  exact ⟨b, off, e1, hb, h⟩
set_option maxHeartbeats 1000000 in
theorem index_ev (v : Value) (l : List Ev) (g : Nat) (lb : Array Value) (p : Ev → Bool) (w : World) (hv : RL w v 9 l.length (l.flatMap Ev.cells)) (hl : l.length ≤ 100000) (hp : Pred_ev g lb p l w)
    (eg : ∀ args w, (callFunc g args).run Tryd.prog w = .ok (.enter g args) w) :
    Calls Tryd.prog 33 #[v, .func (.func g) #[] lb] w fun e w' => e = .returned (.int .i64 (idxF p l 0)) ∧ Below w.heap.size w w' := by
  have hv2 := hv
  obtain ⟨_, a, c, rfl, _⟩ := hv
  have HP := Lib.hid hp
  clear hp
  generalize hn : l.length = n at *
  replace hn := Lib.hid hn
  replace hv2 := Lib.hid hv2
  go_enter Tryd.func33, Tryd.ntmps33
  go_wp2
  go_loopw [8] (fun i wr => ∃ k : Nat, k ≤ n ∧ i = .int .i64 k ∧ Hid (idxF p l 0 = idxF p (l.drop k) k) ∧ Hid (Below w.heap.size w wr)) (fun i _ => n - (intOf i).toNat)
  case atStart => exact ⟨0, Nat.zero_le _, rfl, rfl, Below.refl _ _⟩
  case round =>
    obtain ⟨k, hk, rfl, he, hb⟩ := hrel
    by_cases hlt : k < n
    · obtain ⟨b, off, rfl, hbl, hz⟩ := cells_ev hv2.out hn.out (by omega)
      obtain ⟨x, hx⟩ : ∃ x, l[k]? = some x := ⟨l[k]'(by rw [hn.out]; exact hlt), List.getElem?_eq_getElem _⟩
      have hz := hz k x hx
      have z0 := (hb.out.cell (p := ⟨b, off + k * 9, none⟩) hbl).trans (hz 0 _ rfl)
      have z1 := (hb.out.cell (p := ⟨b, off + k * 9 + 1, none⟩) hbl).trans (hz 1 _ rfl)
      have z2 := (hb.out.cell (p := ⟨b, off + k * 9 + 2, none⟩) hbl).trans (hz 2 _ rfl)
      have z3 := (hb.out.cell (p := ⟨b, off + k * 9 + 3, none⟩) hbl).trans (hz 3 _ rfl)
      have z4 := (hb.out.cell (p := ⟨b, off + k * 9 + 4, none⟩) hbl).trans (hz 4 _ rfl)
      have z5 := (hb.out.cell (p := ⟨b, off + k * 9 + 5, none⟩) hbl).trans (hz 5 _ rfl)
      have z6 := (hb.out.cell (p := ⟨b, off + k * 9 + 6, none⟩) hbl).trans (hz 6 _ rfl)
      have z7 := (hb.out.cell (p := ⟨b, off + k * 9 + 7, none⟩) hbl).trans (hz 7 _ rfl)
      have z8 := (hb.out.cell (p := ⟨b, off + k * 9 + 8, none⟩) hbl).trans (hz 8 _ rfl)
      have E := Lib.hid (show l.drop k = x :: l.drop (k + 1) by
        obtain ⟨h1, h2⟩ := List.getElem?_eq_some_iff.1 hx
        rw [List.drop_eq_getElem_cons h1, h2])
      have hq := Lib.hid (HP.out wr x (List.mem_of_getElem? hx) hb.out)
      have i1 : (0 : Int) ≤ (k : Int) := by omega
      have i2 : (k : Int) < (n : Int) := by omega
      clear hz hx
      obtain ⟨call, thread, invoke, ⟨kind, txn, t_, r, mode, code⟩⟩ := x
      simp only at z0 z1 z2 z3 z4 z5 z6 z7 z8
      simp only [val_ev] at hq
      go_wp2_with fail
      refine hq.out.mono ?_
      rintro e w1 ⟨rfl, b1⟩
      replace hb := Lib.hid (hb.out.trans (b1.mono hb.out.size))
      clear z0 z1 z2 z3 z4 z5 z6 z7 z8 b1 hq
      cases hpr : p ⟨call, thread, invoke, ⟨kind, txn, t_, r, mode, code⟩⟩ with
      | true =>
        have E2 := Lib.hid (show idxF p l 0 = (k : Int) by rw [he.out, E.out]; simp only [idxF, hpr, if_true])
        go_wp2_with fail
        go_ret
        exact ⟨by rw [E2.out]; rfl, hb.out⟩
      | false =>
        have E2 := Lib.hid (show idxF p l 0 = idxF p (l.drop (k + 1)) (k + 1) by rw [he.out, E.out]; simp only [idxF, hpr]; rfl)
        go_wp2_with fail
        go_roundw
        case rel => exact ⟨k + 1, by omega, by go_num, E2, hb⟩
        case measure => simp [intOf]; omega
    · have hk2 : k = n := by omega
      have E := Lib.hid (show idxF p l 0 = -1 by rw [he.out, List.drop_eq_nil_of_le (by rw [hn.out]; omega)]; rfl)
      clear he
      go_wp2_with fail
      go_ret
      exact ⟨by rw [E.out]; rfl, hb.out⟩
theorem idxF_bd {α : Type} [Inhabited α] (p : α → Bool) : ∀ (l : List α) (k : Nat), idxF p l k = -1 ∨ (∃ j, idxF p l k = ((k + j : Nat) : Int) ∧ j < l.length ∧ p (l.getD j default) = true)
  | [], k => .inl rfl
  | x :: l, k => by
    unfold idxF
    cases h : p x with
    | true => exact .inr ⟨0, by simp, by simp, by simpa [List.getD] using h⟩
    | false =>
      rcases idxF_bd p l (k + 1) with h' | ⟨j, h1, h2, h3⟩
      · exact .inl (by simpa using h')
      · refine .inr ⟨j + 1, by simp [h1]; omega, by simpa using h2, by simpa [List.getD] using h3⟩
theorem idxL_take {α : Type} [Inhabited α] (p : α → Bool) : ∀ (l : List α) (k : Nat) (j : Nat), idxF p l k = ((k + j : Nat) : Int) → j < l.length → p (l.getD j default) = true ∧ keepL p (l.take j) = l.take j
  | [], k, j, _, h => by simp at h
  | x :: l, k, j, h, hj => by
    unfold idxF at h
    cases hx : p x with
    | true =>
      rw [hx] at h
      simp only [if_true] at h
      obtain rfl : j = 0 := by omega
      exact ⟨by simpa [List.getD] using hx, by simp [keepL]⟩
    | false =>
      rw [hx] at h
      simp only [Bool.false_eq_true, if_false] at h
      cases j with
      | zero =>
        exfalso
        rcases idxF_bd p l (k + 1) with h' | ⟨j', h1, _, _⟩ <;> omega
      | succ j =>
        have := idxL_take p l (k + 1) j (by rw [h]; congr 1; omega) (by simpa using hj)
        refine ⟨by simpa [List.getD] using this.1, ?_⟩
        have h2 := this.2
        unfold keepL at h2 ⊢
        simp only [List.take_succ_cons]
        rw [List.filter_cons_of_pos (by simp [hx]), h2]
theorem idxL_none {α : Type} (p : α → Bool) : ∀ (l : List α) (k : Nat), idxF p l k = -1 → keepL p l = l
  | [], _, _ => rfl
  | x :: l, k, h => by
    unfold idxF at h
    cases hx : p x with
    | true => rw [hx] at h; simp only [if_true] at h; omega
    | false =>
      rw [hx] at h
      simp only [Bool.false_eq_true, if_false] at h
      have := idxL_none p l (k + 1) h
      unfold keepL at this ⊢
      rw [List.filter_cons_of_pos (by simp [hx]), this]
theorem dzero_ev (w : World) : (zeroValue 31).run Tryd.prog w = .ok (.agg #[.int .i64 0, .int .i64 0, .bool false, .int .i64 0, .int .i64 0, .int .i64 0, .int .i64 0, .int .i64 0, .int .i64 0]) w := by kernel_rfl
theorem dsize_ev : (Value.agg #[.int .i64 0, .int .i64 0, .bool false, .int .i64 0, .int .i64 0, .int .i64 0, .int .i64 0, .int .i64 0, .int .i64 0]).cells.size = 9 := rfl
theorem done_ev : ∀ u ∈ (Value.agg #[.int .i64 0, .int .i64 0, .bool false, .int .i64 0, .int .i64 0, .int .i64 0, .int .i64 0, .int .i64 0, .int .i64 0]).cells.toList, u.oneCell' = true := by
  intro u hu
  simp [Value.cells] at hu
  first | (subst hu; rfl) | (rcases hu with hu | hu <;> (subst hu; rfl)) | (rcases hu with hu | hu | hu <;> (subst hu; rfl))
/-- What is asked of a function value while a row is written. -/
def PredC_ev (g : Nat) (lb : Array Value) (p : Ev → Bool) (ctx : List Res) : Prop :=
  ∀ (W : World) (r : Ev), Sep W ctx → Calls Tryd.prog g (#[val_ev r] ++ lb) W fun e w' => e = .returned (.bool (p r)) ∧ Below W.heap.size W w'
set_option maxHeartbeats 4000000 in
set_option maxRecDepth 100000 in
theorem deleteFunc_ev (a : Option Addr) (m c : Nat) (l : List Ev) (g : Nat) (lb : Array Value) (p : Ev → Bool) (w : World) (ctx : List Res) (hS : Sep w (vec 31 9 (.slice a m c) m (l.flatMap Ev.cells) :: ctx)) (hl : l.length = m) (hm : m ≤ 1000) (hp : PredC_ev g lb p ctx)
    (eg : ∀ args w, (callFunc g args).run Tryd.prog w = .ok (.enter g args) w) :
    Calls Tryd.prog 20 #[.slice a m c, .func (.func g) #[] lb] w fun e w' => e = .returned (.slice a (keepL p l).length c) ∧ Sep w' (vec 31 9 (.slice a (keepL p l).length c) (keepL p l).length ((keepL p l).flatMap Ev.cells) :: ctx) := by
  have HI := Lib.hid (index_ev (.slice a m c) l g lb p w (by rw [hl]; exact hS.vec_rl) (by omega) (fun W r _ hb => hp W r (hS.tail.below hb)) eg)
  have hbd := idxF_bd p l 0
  have hnone := Lib.hid (idxL_none p l 0)
  have htake := Lib.hid (idxL_take p l 0)
  replace hS := Lib.hid hS
  replace hp := Lib.hid hp
  generalize idxF p l 0 = x at *
  rcases hbd with rfl | ⟨i0, hx, hi0, hpi⟩
  · have E := Lib.hid (hnone.out rfl)
    go_enter Tryd.func20, Tryd.ntmps20
    go_wp2_with fail
    refine HI.out.mono ?_
    rintro e w1 ⟨rfl, b1⟩
    replace hS := Lib.hid (hS.out.below b1)
    clear b1
    go_wp2_with fail
    go_ret
    exact ⟨by rw [E.out, hl]; rfl, by rw [E.out, hl]; exact hS.out⟩
  · rw [Nat.zero_add] at hx
    subst hx
    obtain ⟨hpt, hk0⟩ := htake.out i0 (by simp) hi0
    obtain ⟨g0, rfl, _⟩ := hS.out.vec_at ev_len hl (by omega : i0 < m)
    have hm0 : ((i0 : Int) == -1) = false := by rw [beq_eq_false_iff_ne]; omega
    have hst := Lib.hid (show keepL p (l.take (i0 + 1)) = l.take i0 by rw [keepL_snoc p l i0 hi0, hpt, hk0]; simp)
    replace hk0 := Lib.hid hk0
    replace hl := Lib.hid hl
    have hi0' : i0 < m := by have := hl.out; omega
    clear hpt hpi hnone htake
    go_enter Tryd.func20, Tryd.ntmps20
    go_wp2_with fail
    refine HI.out.mono ?_
    rintro e w1 ⟨rfl, b1⟩
    replace hS := Lib.hid (hS.out.below b1)
    clear b1 HI
    go_wp2_with fail
    go_loopg [5, 6] (m - (i0 + 1)) (fun g s5 s6 wr => ∃ (i j : Nat) (cur : List Ev), i < j ∧ j ≤ m ∧ g = m - j ∧ s5 = .int .i64 i ∧ s6 = .int .i64 j ∧ Hid (cur.length = m) ∧ Hid (cur.take i = keepL p (l.take j)) ∧ Hid (i = (keepL p (l.take j)).length) ∧ Hid (cur.drop j = l.drop j) ∧ Hid (Sep wr (vec 31 9 (.slice (some ⟨g0, 0, none⟩) m c) m (cur.flatMap Ev.cells) :: ctx)))
    case atStart => exact ⟨i0, i0 + 1, l, by omega, by omega, rfl, rfl, by go_num, hl, Lib.hid (by rw [hst.out]), Lib.hid (by rw [hst.out, List.length_take]; omega), Lib.hid rfl, hS⟩
    case round =>
      clear hS hst hk0
      obtain ⟨i, j, cur, hij, hjm, hg, rfl, rfl, hcl, hct, hci, hcd, hS⟩ := hrel
      by_cases hlt : j < m
      · have hqq : cur.getD j default = l.getD j default := by
          have h1 := congrArg (fun x : List Ev => x.getD 0 default) hcd.out
          simpa [List.getD] using h1
        replace hqq := Lib.hid hqq
        obtain ⟨g', hg', hgl, hmc, zz, hfz⟩ := hS.out.vec_at ev_len hcl.out hlt
        injection hg' with hg'
        injection hg' with hg'
        subst hg'
        rw [hqq.out] at zz
        have z0 := zz 0 _ rfl
        have z1 := zz 1 _ rfl
        have z2 := zz 2 _ rfl
        have z3 := zz 3 _ rfl
        have z4 := zz 4 _ rfl
        have z5 := zz 5 _ rfl
        have z6 := zz 6 _ rfl
        have z7 := zz 7 _ rfl
        have z8 := zz 8 _ rfl
        have hsn := Lib.hid (keepL_snoc p l j (by have := hl.out; omega))
        have hcd' := Lib.hid (show cur.drop (j + 1) = l.drop (j + 1) by have h := congrArg (List.drop 1) hcd.out; simpa [List.drop_drop] using h)
        clear zz
        generalize l.getD j default = q at *
        have hS2 := Lib.hid (hS.out.alloc (Ev.cells q).toArray 31)
        have HP := Lib.hid (hp.out _ q hS2.out.tail.tail)
        have hput := Lib.hid (fun W (h : Sep W (vec 31 9 (.slice (some ⟨g0, 0, none⟩) m c) m (cur.flatMap Ev.cells) :: blk wr.heap.size 31 (Ev.cells q).toArray :: ctx)) => by
          have h2 := Sep.vec_setN (Ev.cells q) (i * 9) W _ h (by rw [ev_len, flat_len _ _ ev_len, hcl.out]; omega)
          rw [flat_put ev_len cur i q (by rw [hcl.out]; omega)] at h2
          exact h2)
        obtain ⟨call, thread, invoke, ⟨kind, txn, t_, r, mode, code⟩⟩ := q
        simp only [val_ev] at HP
        simp only [Ev.cells, setW, Nat.add_assoc, Nat.reduceAdd] at hS2 HP hput
        simp only [Nat.add_zero] at z0 z1 z2 z3 z4 z5 z6 z7 z8
        have i1 : (0 : Int) ≤ (j : Int) := by omega
        have i2 : (j : Int) < (m : Int) := by omega
        have i3 : (0 : Int) ≤ (i : Int) := by omega
        have i4 : (i : Int) < (m : Int) := by omega
        clear hfz
        go_wp2_with fail
        refine HP.out.mono ?_
        rintro e w2 ⟨rfl, b2⟩
        have hS3 := Lib.hid (hS2.out.below b2)
        have hb9 := hS3.out.gblk
        have r0 := hb9.cell 0
        have r0f := hb9.frozen 0
        have r1 := hb9.cell 1
        have r1f := hb9.frozen 1
        have r2 := hb9.cell 2
        have r2f := hb9.frozen 2
        have r3 := hb9.cell 3
        have r3f := hb9.frozen 3
        have r4 := hb9.cell 4
        have r4f := hb9.frozen 4
        have r5 := hb9.cell 5
        have r5f := hb9.frozen 5
        have r6 := hb9.cell 6
        have r6f := hb9.frozen 6
        have r7 := hb9.cell 7
        have r7f := hb9.frozen 7
        have r8 := hb9.cell 8
        have r8f := hb9.frozen 8
        clear hb9
        obtain ⟨g', hg', hgl2, _, yy, hfz⟩ := hS3.out.to1.vec_at ev_len hcl.out (show i < m by omega)
        injection hg' with hg'
        injection hg' with hg'
        subst hg'
        have hcx : ∀ f, f < 9 → ∃ u, w2.cell? ⟨g0, i * 9 + f, none⟩ = some u := fun f hf => by
          obtain ⟨u, hu⟩ : ∃ u, (Ev.cells (cur.getD i default))[f]? = some u := ⟨_, List.getElem?_eq_getElem (by rw [ev_len]; exact hf)⟩
          exact ⟨u, yy f u hu⟩
        obtain ⟨u0, y0⟩ := hcx 0 (by omega)
        have f0 := hfz (i * 9)
        obtain ⟨u1, y1⟩ := hcx 1 (by omega)
        have f1 := hfz (i * 9 + 1)
        obtain ⟨u2, y2⟩ := hcx 2 (by omega)
        have f2 := hfz (i * 9 + 2)
        obtain ⟨u3, y3⟩ := hcx 3 (by omega)
        have f3 := hfz (i * 9 + 3)
        obtain ⟨u4, y4⟩ := hcx 4 (by omega)
        have f4 := hfz (i * 9 + 4)
        obtain ⟨u5, y5⟩ := hcx 5 (by omega)
        have f5 := hfz (i * 9 + 5)
        obtain ⟨u6, y6⟩ := hcx 6 (by omega)
        have f6 := hfz (i * 9 + 6)
        obtain ⟨u7, y7⟩ := hcx 7 (by omega)
        have f7 := hfz (i * 9 + 7)
        obtain ⟨u8, y8⟩ := hcx 8 (by omega)
        have f8 := hfz (i * 9 + 8)
        rw [Nat.add_zero] at y0
        clear b2 HP hS2 z0 z1 z2 z3 z4 z5 z6 z7 z8 hS hfz yy hcx
        cases hpq : p ⟨call, thread, invoke, ⟨kind, txn, t_, r, mode, code⟩⟩ with
        | true =>
          rw [hpq] at hsn
          simp only [if_true, List.append_nil] at hsn
          clear hpq
          go_wp2_with fail
          go_roundg (m - (j + 1))
          case measure => omega
          case rel => exact ⟨i, j + 1, cur, by omega, by omega, rfl, rfl, by go_num, hcl, Lib.hid (by rw [hsn.out]; exact hct.out), Lib.hid (by rw [hsn.out]; exact hci.out), hcd', Lib.hid hS3.out.tail⟩
        | false =>
          rw [hpq] at hsn
          simp only [Bool.false_eq_true, if_false] at hsn
          have hS4 := hput.out _ hS3.out.to1
          replace hS4 := Lib.hid hS4
          clear hpq hput
          go_wp2_with fail
          go_roundg (m - (j + 1))
          case measure => omega
          case rel => exact ⟨i + 1, j + 1, cur.set i ⟨call, thread, invoke, ⟨kind, txn, t_, r, mode, code⟩⟩, by omega, by omega, rfl, by go_num, by go_num, Lib.hid (by rw [List.length_set]; exact hcl.out), Lib.hid (by rw [hsn.out, ← hct.out]; exact take_set_snocL cur i _ (by rw [hcl.out]; omega)), Lib.hid (by rw [hsn.out, List.length_append, ← hci.out]; rfl), Lib.hid (by rw [List.drop_set_of_lt (by omega)]; exact hcd'.out), Lib.hid hS4.out.drop1⟩
      · have hjm' : j = m := by omega
        have hlm : l.take j = l := List.take_of_length_le (by have := hl.out; omega)
        rw [hlm] at hct hci
        have hi3 : i < m := by omega
        obtain ⟨g', hg', hgl, hmc, _⟩ := hS.out.vec_at ev_len hcl.out hi3
        have i3 : (0 : Int) ≤ (i : Int) := by omega
        have i4 : (i : Int) < (m : Int) := by omega
        have i5 : (i : Int) ≤ (c : Int) := by omega
        clear hg' hgl hlm
        go_wp2_with (refine wpList_clear_sep hS.out (by kernel_rfl) (.tmp 38) 23 (by rfl) _ Tryd.underlying23 dzero_ev dsize_ev done_ev i hi3 (c - i) (by rfl) ?_)
        intro w3 ys hS3
        have hS4 := hS3.vec_shrink (k := i) (by omega)
        have hq : ((cur.flatMap Ev.cells).take (i * 9) ++ ys).take (i * 9) = (keepL p l).flatMap Ev.cells := by
          rw [List.take_append_of_le_length (by rw [List.length_take, flat_len _ _ ev_len, hcl.out]; omega), List.take_take, Nat.min_self, flat_take _ _ ev_len _ _ (by rw [hcl.out]; omega), hct.out]
        rw [hq] at hS4
        replace hS4 := Lib.hid hS4
        clear hS3 hq hS
        go_wp2_with fail
        go_ret
        exact ⟨by rw [← hci.out]; rfl, by rw [← hci.out]; exact hS4.out⟩
end Go.Proofs.YtechagciefhpbaaDoor
