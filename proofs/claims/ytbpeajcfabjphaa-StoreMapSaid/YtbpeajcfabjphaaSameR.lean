/-
  Same and slices.Equal at records: the contracts, whatever the lists. No condition beside lists that can be read.
-/
import Derived.Test.YtbpeajcfabjphaaRow
namespace Go.Proofs.Ytbpeajcfabjphaa
open Go.RowKit Go.MapKept
def eqB_row (a0 b0 : Int) (a1 b1 : Int) (a2 b2 : Int) : Bool := ((eqB_name a0 b0 a1 b1) && ((a2 == b2) && true))
theorem held_row : Try.prog.stoodInHeld 39 = false := by kernel_rfl
theorem und_row : Try.prog.underlying 39 = some (.struct (Try.prog.fieldsOf 39)) := by kernel_rfl
theorem names_row : (Try.prog.fieldsOf 39).toList.map (fun f => (f.name == "_", f.type, f.offset)) = [(false, 24, 0), (false, 2, 2)] := by kernel_rfl
theorem infos_row : ∃ i, Try.prog.info? 39 = some i := Option.isSome_iff_exists.1 (by kernel_rfl)
theorem size_row : Try.prog.cellsOf 39 = 3 := by kernel_rfl
theorem equalIn_row (d : Nat) (a0 b0 : Int) (a1 b1 : Int) (a2 b2 : Int) (w : World) : (Op.equalIn (d + 3) 39 (.agg #[.int .i64 a0, .int .i64 a1, .int .i64 a2]) (.agg #[.int .i64 b0, .int .i64 b1, .int .i64 b2])).run Try.prog w = .ok (eqB_row a0 b0 a1 b1 a2 b2) w := by
  rw [run_equalIn_struct (P := Try.prog) w (d + 2) 39 _ _ und_row held_row, eqFields_eqD Try.prog, names_row]
  unfold eqB_row
  obtain ⟨i0, hi0⟩ := infos_name
  refine eqD_cons (part_struct und_name hi0 size_name) (part_struct und_name hi0 size_name) (equalIn_name (d + 0) a0 b0 a1 b1 w) ?_
  refine eqD_cons (part_one Try.underlying2 rfl rfl) (part_one Try.underlying2 rfl rfl) (run_equalIn_int w _ _ _ _ _ _ Try.underlying2) ?_
  exact eqD_nil
theorem run_eql_row (a0 b0 : Int) (a1 b1 : Int) (a2 b2 : Int) (w : World) : (binOp .eql 39 (.agg #[.int .i64 a0, .int .i64 a1, .int .i64 a2]) (.agg #[.int .i64 b0, .int .i64 b1, .int .i64 b2])).run Try.prog w = .ok (.bool (eqB_row a0 b0 a1 b1 a2 b2)) w := by
  have h := equalIn_row 9997 a0 b0 a1 b1 a2 b2 w
  simp only [binOp]
  simp [Op.equal, Op.maxDepth, h]
theorem run_neq_row (a0 b0 : Int) (a1 b1 : Int) (a2 b2 : Int) (w : World) : (binOp .neq 39 (.agg #[.int .i64 a0, .int .i64 a1, .int .i64 a2]) (.agg #[.int .i64 b0, .int .i64 b1, .int .i64 b2])).run Try.prog w = .ok (.bool !(eqB_row a0 b0 a1 b1 a2 b2)) w := by
  have h := equalIn_row 9997 a0 b0 a1 b1 a2 b2 w
  simp only [binOp]
  simp [Op.equal, Op.maxDepth, h]
theorem eqB_row_iff (a0 b0 : Int) (a1 b1 : Int) (a2 b2 : Int) : eqB_row a0 b0 a1 b1 a2 b2 = decide (a0 = b0 ∧ a1 = b1 ∧ a2 = b2) := by
  rw [Bool.eq_iff_iff]
  unfold eqB_row
  simp [eqB_name_iff, and_assoc]

theorem row_ext {xs ys : Ent} (hl : xs.length = ys.length) (h : ∀ j, j < xs.length → xs[j]? = ys[j]?) : xs = ys := by
  apply List.ext_getElem?
  intro i
  by_cases hi : i < xs.length
  · exact h i hi
  · rw [List.getElem?_eq_none (by omega), List.getElem?_eq_none (by omega)]
set_option maxHeartbeats 4000000 in
theorem same_row (u v : Value) (xs ys : Ent) (w : World) (hn : xs.length ≤ 1000) (hu : RL w u 3 xs.length (xs.flatMap rowC)) (hv : RL w v 3 ys.length (ys.flatMap rowC)) :
   Calls Try.prog 12 #[u, v] w fun e w' => e = .returned (.bool (decide (xs = ys))) ∧ Below w.heap.size w w' := by
  obtain ⟨_, a, c, rfl, _⟩ := id hu
  obtain ⟨_, a', c', rfl, _⟩ := id hv
  by_cases hlen : xs.length = ys.length
  · have hne := Lib.hid (fun (k : Nat) (h : xs[k]? ≠ ys[k]?) => (show decide (xs = ys) = false from decide_eq_false (fun e => h (by rw [e]))))
    have heq := Lib.hid (fun (h : ∀ j, j < xs.length → xs[j]? = ys[j]?) => (show decide (xs = ys) = true from decide_eq_true (row_ext hlen h)))
    obtain ⟨n, hl⟩ : ∃ n, xs.length = n := ⟨_, rfl⟩
    rw [hl] at hlen heq hn
    rw [← hlen] at hv ⊢
    rw [hl] at hu ⊢
    have HR := Lib.hid hu
    have HR' := Lib.hid hv
    replace hl := Lib.hid hl
    have hl' := Lib.hid hlen.symm
    clear hlen hu hv
    generalize decide (xs = ys) = b at *
    go_enter Try.func12, Try.ntmps12
    go_wp2
    go_loopw [5] (fun i w1 => ∃ k : Nat, k ≤ n ∧ i = .int .i64 k ∧ Hid (∀ j, j < k → xs[j]? = ys[j]?) ∧ Hid (Below w.heap.size w w1)) (fun i _ => n - (intOf i).toNat)
    case atStart => exact ⟨0, Nat.zero_le _, rfl, Lib.hid (fun j hj => absurd hj (by omega)), Below.refl _ _⟩
    case round =>
      obtain ⟨k, hk, rfl, hp, hb⟩ := hrel
      by_cases hlt : k < n
      · obtain ⟨b1, off, rfl, l1, hc⟩ := row_cells HR.out hl.out (by omega)
        obtain ⟨b2, off', rfl, l2, hc'⟩ := row_cells HR'.out hl'.out (by omega)
        obtain ⟨x, hx⟩ : ∃ x, xs[k]? = some x := ⟨xs[k]'(by rw [hl.out]; exact hlt), List.getElem?_eq_getElem _⟩
        obtain ⟨y, hy⟩ : ∃ y, ys[k]? = some y := ⟨ys[k]'(by rw [hl'.out]; exact hlt), List.getElem?_eq_getElem _⟩
        obtain ⟨x0, x1, x2⟩ := hc k x hx
        obtain ⟨y0, y1, y2⟩ := hc' k y hy
        have k1 : ∀ o, w.cell? ⟨b1, o, none⟩ = wr.cell? ⟨b1, o, none⟩ := fun o => (hb.out.cell (p := ⟨b1, o, none⟩) l1).symm
        have k2 : ∀ o, w.cell? ⟨b2, o, none⟩ = wr.cell? ⟨b2, o, none⟩ := fun o => (hb.out.cell (p := ⟨b2, o, none⟩) l2).symm
        rw [k1] at x0 x1 x2
        rw [k2] at y0 y1 y2
        simp only [← Nat.add_assoc, Nat.add_zero] at x0 x1 x2 y0 y1 y2
        have hq := fun W => run_neq_row x.1.1 y.1.1 x.1.2 y.1.2 x.2 y.2 W
        have hiff := eqB_row_iff x.1.1 y.1.1 x.1.2 y.1.2 x.2 y.2
        generalize eqB_row x.1.1 y.1.1 x.1.2 y.1.2 x.2 y.2 = bb at hiff hq
        have hxy : (x.1.1 = y.1.1 ∧ x.1.2 = y.1.2 ∧ x.2 = y.2) ↔ x = y := by
          obtain ⟨⟨a0, a1⟩, a2⟩ := x
          obtain ⟨⟨c0, c1⟩, c2⟩ := y
          simp [and_assoc]
        have hne' := Lib.hid (fun h : ¬ x = y => hne.out k (by rw [hx, hy]; exact fun e => h (Option.some.inj e)))
        have hp' := Lib.hid (fun (h : x = y) (j : Nat) (hj : j < k + 1) => (show xs[j]? = ys[j]? from by
          by_cases e : j = k
          · rw [e, hx, hy, h]
          · exact hp.out j (by omega)))
        clear hc hc' HR HR' hne heq k1 k2 hx hy l1 l2
        have hk1 := Lib.hid (show k + 1 ≤ n from hlt)
        have i1 : (0 : Int) ≤ (k : Int) := by omega
        have i2 : (k : Int) < (n : Int) := by omega
        by_cases he : x = y
        · have hp2 := Lib.hid (hp'.out he)
          obtain rfl : bb = true := hiff.trans (decide_eq_true (hxy.2 he))
          clear hiff hxy
          clear hp' hne'
          replace he := Lib.hid he
          go_wp2_with fail
          go_quiet (fail)
          go_wp2_with fail
          go_roundw
          case rel => exact ⟨k+1, hk1.out, by go_num, hp2, hb.out.trans ((Keeps.drewN _ _).to_below.mono hb.out.size)⟩
          case measure => have := hk1.out; simp [intOf]; omega
        · have hb2 := Lib.hid (hne'.out he)
          obtain rfl : bb = false := hiff.trans (decide_eq_false fun e => he (hxy.1 e))
          clear hiff hxy
          clear hp' hne'
          replace he := Lib.hid he
          go_wp2_with fail
          go_quiet (fail)
          go_wp2_with fail
          go_ret
          exact ⟨by rw [hb2.out]; rfl, hb.out.trans ((Keeps.drewN _ _).to_below.mono hb.out.size)⟩
      · obtain rfl : k = n := by omega
        have hb2 := Lib.hid (heq.out hp.out)
        clear hne heq
        go_wp2
        go_ret
        exact ⟨by rw [hb2.out]; rfl, hb.out⟩
  · have hb := Lib.hid (show decide (xs = ys) = false from decide_eq_false (fun e => hlen (by rw [e])))
    have i1 : ¬ ((xs.length : Int) = (ys.length : Int)) := by omega
    generalize decide (xs = ys) = b at *
    clear hu hv
    go_enter Try.func12, Try.ntmps12
    go_wp2
    go_ret
    exact ⟨by rw [hb.out]; rfl, Below.refl _ _⟩
set_option maxHeartbeats 4000000 in
theorem equal_row (u v : Value) (xs ys : Ent) (w : World) (hn : xs.length ≤ 1000) (hu : RL w u 3 xs.length (xs.flatMap rowC)) (hv : RL w v 3 ys.length (ys.flatMap rowC)) :
   Calls Try.prog 34 #[u, v] w fun e w' => e = .returned (.bool (decide (xs = ys))) ∧ Below w.heap.size w w' := by
  obtain ⟨_, a, c, rfl, _⟩ := id hu
  obtain ⟨_, a', c', rfl, _⟩ := id hv
  by_cases hlen : xs.length = ys.length
  · have hne := Lib.hid (fun (k : Nat) (h : xs[k]? ≠ ys[k]?) => (show decide (xs = ys) = false from decide_eq_false (fun e => h (by rw [e]))))
    have heq := Lib.hid (fun (h : ∀ j, j < xs.length → xs[j]? = ys[j]?) => (show decide (xs = ys) = true from decide_eq_true (row_ext hlen h)))
    obtain ⟨n, hl⟩ : ∃ n, xs.length = n := ⟨_, rfl⟩
    rw [hl] at hlen heq hn
    rw [← hlen] at hv ⊢
    rw [hl] at hu ⊢
    have HR := Lib.hid hu
    have HR' := Lib.hid hv
    replace hl := Lib.hid hl
    have hl' := Lib.hid hlen.symm
    clear hlen hu hv
    generalize decide (xs = ys) = b at *
    go_enter Try.func34, Try.ntmps34
    go_wp2
    go_loopw [13] (fun i w1 => ∃ k : Nat, k ≤ n ∧ i = .int .i64 k ∧ Hid (∀ j, j < k → xs[j]? = ys[j]?) ∧ Hid (Below w.heap.size w w1)) (fun i _ => n - (intOf i).toNat)
    case atStart => exact ⟨0, Nat.zero_le _, rfl, Lib.hid (fun j hj => absurd hj (by omega)), Below.refl _ _⟩
    case round =>
      obtain ⟨k, hk, rfl, hp, hb⟩ := hrel
      by_cases hlt : k < n
      · obtain ⟨b1, off, rfl, l1, hc⟩ := row_cells HR.out hl.out (by omega)
        obtain ⟨b2, off', rfl, l2, hc'⟩ := row_cells HR'.out hl'.out (by omega)
        obtain ⟨x, hx⟩ : ∃ x, xs[k]? = some x := ⟨xs[k]'(by rw [hl.out]; exact hlt), List.getElem?_eq_getElem _⟩
        obtain ⟨y, hy⟩ : ∃ y, ys[k]? = some y := ⟨ys[k]'(by rw [hl'.out]; exact hlt), List.getElem?_eq_getElem _⟩
        obtain ⟨x0, x1, x2⟩ := hc k x hx
        obtain ⟨y0, y1, y2⟩ := hc' k y hy
        have k1 : ∀ o, w.cell? ⟨b1, o, none⟩ = wr.cell? ⟨b1, o, none⟩ := fun o => (hb.out.cell (p := ⟨b1, o, none⟩) l1).symm
        have k2 : ∀ o, w.cell? ⟨b2, o, none⟩ = wr.cell? ⟨b2, o, none⟩ := fun o => (hb.out.cell (p := ⟨b2, o, none⟩) l2).symm
        rw [k1] at x0 x1 x2
        rw [k2] at y0 y1 y2
        simp only [← Nat.add_assoc, Nat.add_zero] at x0 x1 x2 y0 y1 y2
        have hq := fun W => run_neq_row x.1.1 y.1.1 x.1.2 y.1.2 x.2 y.2 W
        have hiff := eqB_row_iff x.1.1 y.1.1 x.1.2 y.1.2 x.2 y.2
        generalize eqB_row x.1.1 y.1.1 x.1.2 y.1.2 x.2 y.2 = bb at hiff hq
        have hxy : (x.1.1 = y.1.1 ∧ x.1.2 = y.1.2 ∧ x.2 = y.2) ↔ x = y := by
          obtain ⟨⟨a0, a1⟩, a2⟩ := x
          obtain ⟨⟨c0, c1⟩, c2⟩ := y
          simp [and_assoc]
        have hne' := Lib.hid (fun h : ¬ x = y => hne.out k (by rw [hx, hy]; exact fun e => h (Option.some.inj e)))
        have hp' := Lib.hid (fun (h : x = y) (j : Nat) (hj : j < k + 1) => (show xs[j]? = ys[j]? from by
          by_cases e : j = k
          · rw [e, hx, hy, h]
          · exact hp.out j (by omega)))
        clear hc hc' HR HR' hne heq k1 k2 hx hy l1 l2
        have hk1 := Lib.hid (show k + 1 ≤ n from hlt)
        have i1 : (0 : Int) ≤ (k : Int) := by omega
        have i2 : (k : Int) < (n : Int) := by omega
        by_cases he : x = y
        · have hp2 := Lib.hid (hp'.out he)
          obtain rfl : bb = true := hiff.trans (decide_eq_true (hxy.2 he))
          clear hiff hxy
          clear hp' hne'
          replace he := Lib.hid he
          go_wp2_with fail
          go_quiet (fail)
          go_wp2_with fail
          go_roundw
          case rel => exact ⟨k+1, hk1.out, by go_num, hp2, hb.out.trans ((Keeps.drewN _ _).to_below.mono hb.out.size)⟩
          case measure => have := hk1.out; simp [intOf]; omega
        · have hb2 := Lib.hid (hne'.out he)
          obtain rfl : bb = false := hiff.trans (decide_eq_false fun e => he (hxy.1 e))
          clear hiff hxy
          clear hp' hne'
          replace he := Lib.hid he
          go_wp2_with fail
          go_quiet (fail)
          go_wp2_with fail
          go_ret
          exact ⟨by rw [hb2.out]; rfl, hb.out.trans ((Keeps.drewN _ _).to_below.mono hb.out.size)⟩
      · obtain rfl : k = n := by omega
        have hb2 := Lib.hid (heq.out hp.out)
        clear hne heq
        go_wp2
        go_ret
        exact ⟨by rw [hb2.out]; rfl, hb.out⟩
  · have hb := Lib.hid (show decide (xs = ys) = false from decide_eq_false (fun e => hlen (by rw [e])))
    have i1 : ¬ ((xs.length : Int) = (ys.length : Int)) := by omega
    generalize decide (xs = ys) = b at *
    clear hu hv
    go_enter Try.func34, Try.ntmps34
    go_wp2
    go_ret
    exact ⟨by rw [hb.out]; rfl, Below.refl _ _⟩
end Go.Proofs.Ytbpeajcfabjphaa
