/-
  Same at timers, the chapter's example. No condition beside lists that can be read.
-/
import Derived.Test.YtcbjgibcgalppaaTkH
import Derived.Laws.EntriesVeiled
import Derived.Deep.RegionWith
import Derived.Shelf.SlicesE.IndexFunc
namespace Go.Proofs.Ytcbjgibcgalppaa
open Go.RowKit
def eqD (P : Program) (d : Nat) (xs ys : Array Value) : List (Bool × TypeId × Nat) → Sem Bool
  | [] => pure true
  | (b, t, o) :: ds =>
    if b = false then do
      let x ← part t xs o
      let y ← part t ys o
      let r ← Op.equalIn d t x y
      if (!r) = true then pure false else eqD P d xs ys ds
    else eqD P d xs ys ds
theorem eqFields_eqD (P : Program) (d : Nat) (xs ys : Array Value) : ∀ fs : List Field, Op.eqFields d xs ys fs = eqD P d xs ys (fs.map fun f => (f.name == "_", f.type, f.offset))
  | [] => rfl
  | f :: fs => by
    have ih := eqFields_eqD P d xs ys fs
    simp only [List.map_cons, Op.eqFields, eqD, ih, beq_eq_false_iff_ne]
theorem eqD_nil {P : Program} {d : Nat} {xs ys : Array Value} {w : World} : (eqD P d xs ys []).run P w = .ok true w := by simp [eqD]
theorem eqD_cons {P : Program} {d : Nat} {xs ys : Array Value} {t : TypeId} {o : Nat} {ds : List (Bool × TypeId × Nat)} {w : World} {x y : Value} {r s : Bool} (h1 : (part t xs o).run P w = .ok x w) (h2 : (part t ys o).run P w = .ok y w)
    (h3 : (Op.equalIn d t x y).run P w = .ok r w) (h4 : (eqD P d xs ys ds).run P w = .ok s w) : (eqD P d xs ys ((false, t, o) :: ds)).run P w = .ok (r && s) w := by
  cases r <;> simp [eqD, h1, h2, h3, h4, Result.andThen]
theorem part_one {P : Program} {t : TypeId} {xs : Array Value} {o : Nat} {v : Value} {w : World} {d : TypeDesc} (ht : P.underlying t = some d) (hd : (match d with | .struct _ | .array _ _ => false | _ => true) = true) (h : xs[o]? = some v) : (part t xs o).run P w = .ok v w := by
  cases d <;> simp_all [part, isAgg, run_underlying ht, Result.andThen]
theorem part_struct {P : Program} {t : TypeId} {xs : Array Value} {o n : Nat} {w : World} {fs : Array Field} {i : TypeInfo} (ht : P.underlying t = some (.struct fs)) (hi : P.info? t = some i) (hn : P.cellsOf t = n) : (part t xs o).run P w = .ok (.agg (xs.extract o (o + n))) w := by
  subst hn
  simp [part, isAgg, run_underlying ht, run_sizeOf w hi, Result.andThen]
def eqB_tim (a0 b0 : Int) (a1 b1 : Int) (a2 b2 : Int) : Bool := ((a0 == b0) && ((a1 == b1) && ((a2 == b2) && true)))
theorem held_tim : Try.prog.stoodInHeld 34 = false := by kernel_rfl
theorem und_tim : Try.prog.underlying 34 = some (.struct (Try.prog.fieldsOf 34)) := by kernel_rfl
theorem names_tim : (Try.prog.fieldsOf 34).toList.map (fun f => (f.name == "_", f.type, f.offset)) = [(false, 2, 0), (false, 3, 1), (false, 3, 2)] := by kernel_rfl
theorem infos_tim : ∃ i, Try.prog.info? 34 = some i := Option.isSome_iff_exists.1 (by kernel_rfl)
theorem size_tim : Try.prog.cellsOf 34 = 3 := by kernel_rfl
theorem equalIn_tim (d : Nat) (a0 b0 : Int) (a1 b1 : Int) (a2 b2 : Int) (w : World) : (Op.equalIn (d + 2) 34 (.agg #[.int .i64 a0, .int .i64 a1, .int .i64 a2]) (.agg #[.int .i64 b0, .int .i64 b1, .int .i64 b2])).run Try.prog w = .ok (eqB_tim a0 b0 a1 b1 a2 b2) w := by
  rw [run_equalIn_struct (P := Try.prog) w (d + 1) 34 _ _ und_tim held_tim, eqFields_eqD Try.prog, names_tim]
  unfold eqB_tim
  refine eqD_cons (part_one Try.underlying2 rfl rfl) (part_one Try.underlying2 rfl rfl) (run_equalIn_int w _ _ _ _ _ _ Try.underlying2) ?_
  refine eqD_cons (part_one Try.underlying3 rfl rfl) (part_one Try.underlying3 rfl rfl) (run_equalIn_int w _ _ _ _ _ _ Try.underlying3) ?_
  refine eqD_cons (part_one Try.underlying3 rfl rfl) (part_one Try.underlying3 rfl rfl) (run_equalIn_int w _ _ _ _ _ _ Try.underlying3) ?_
  exact eqD_nil
theorem run_eql_tim (a0 b0 : Int) (a1 b1 : Int) (a2 b2 : Int) (w : World) : (binOp .eql 34 (.agg #[.int .i64 a0, .int .i64 a1, .int .i64 a2]) (.agg #[.int .i64 b0, .int .i64 b1, .int .i64 b2])).run Try.prog w = .ok (.bool (eqB_tim a0 b0 a1 b1 a2 b2)) w := by
  have h := equalIn_tim 9998 a0 b0 a1 b1 a2 b2 w
  simp only [binOp]
  simp [Op.equal, Op.maxDepth, h]
theorem run_neq_tim (a0 b0 : Int) (a1 b1 : Int) (a2 b2 : Int) (w : World) : (binOp .neq 34 (.agg #[.int .i64 a0, .int .i64 a1, .int .i64 a2]) (.agg #[.int .i64 b0, .int .i64 b1, .int .i64 b2])).run Try.prog w = .ok (.bool !(eqB_tim a0 b0 a1 b1 a2 b2)) w := by
  have h := equalIn_tim 9998 a0 b0 a1 b1 a2 b2 w
  simp only [binOp]
  simp [Op.equal, Op.maxDepth, h]
theorem eqB_tim_iff (a0 b0 : Int) (a1 b1 : Int) (a2 b2 : Int) : eqB_tim a0 b0 a1 b1 a2 b2 = decide (a0 = b0 ∧ a1 = b1 ∧ a2 = b2) := by
  rw [Bool.eq_iff_iff]
  unfold eqB_tim
  simp
theorem tm_cells {w : World} {a : Option Addr} {n c : Nat} {l : List Tm} (hv : RL w (.slice a n c) 3 n (l.flatMap tC)) (hn : l.length = n) (h0 : 0 < n) : ∃ b off, a = some ⟨b, off, none⟩ ∧ b < w.heap.size ∧ ∀ k x, l[k]? = some x → w.cell? ⟨b, off + (k * 3 + 0), none⟩ = some (.int .i64 x.1) ∧ w.cell? ⟨b, off + (k * 3 + 1), none⟩ = some (.int .i64 x.2.1) ∧ w.cell? ⟨b, off + (k * 3 + 2), none⟩ = some (.int .i64 x.2.2) := by
  obtain ⟨b, off, h1, h2, h3⟩ := cells_tm hv hn h0
  exact ⟨b, off, h1, h2, fun k x hx => ⟨h3 k x hx 0 _ rfl, h3 k x hx 1 _ rfl, h3 k x hx 2 _ rfl⟩⟩
theorem row_ext {xs ys : List Tm} (hl : xs.length = ys.length) (h : ∀ j, j < xs.length → xs[j]? = ys[j]?) : xs = ys := by
  apply List.ext_getElem?
  intro i
  by_cases hi : i < xs.length
  · exact h i hi
  · rw [List.getElem?_eq_none (by omega), List.getElem?_eq_none (by omega)]
set_option maxHeartbeats 4000000 in
theorem same_tm (u v : Value) (xs ys : List Tm) (w : World) (hn : xs.length ≤ 1000) (hu : RL w u 3 xs.length (xs.flatMap tC)) (hv : RL w v 3 ys.length (ys.flatMap tC)) :
   Calls Try.prog 15 #[u, v] w fun e w' => e = .returned (.bool (decide (xs = ys))) ∧ Below w.heap.size w w' := by
  obtain ⟨_, a, c, rfl, _⟩ := id hu
  obtain ⟨_, a', c', rfl, _⟩ := id hv
  by_cases hlen : xs.length = ys.length
  · have hne := Lib.hid (fun (k : Nat) (h : xs[k]? ≠ ys[k]?) => (show decide (xs = ys) = false from decide_eq_false (fun e => h (by rw [e]))))
    have heq := Lib.hid (fun (h : ∀ j, j < xs.length → xs[j]? = ys[j]?) => (show decide (xs = ys) = true from decide_eq_true (row_ext hlen h)))
    obtain ⟨n, hl⟩ : ∃ n, xs.length = n := ⟨_, rfl⟩
    rw [hl] at hlen heq hn
    rw [← hlen] at hv ⊢
    rw [hl] at hu ⊢
    have HR := Lib.hid hu
    have HR' := Lib.hid hv
    replace hl := Lib.hid hl
    have hl' := Lib.hid hlen.symm
    clear hlen hu hv
    generalize decide (xs = ys) = b at *
    go_enter Try.func15, Try.ntmps15
    go_wp2
    go_loopw [5] (fun i w1 => ∃ k : Nat, k ≤ n ∧ i = .int .i64 k ∧ Hid (∀ j, j < k → xs[j]? = ys[j]?) ∧ Hid (Below w.heap.size w w1)) (fun i _ => n - (intOf i).toNat)
    case atStart => exact ⟨0, Nat.zero_le _, rfl, Lib.hid (fun j hj => absurd hj (by omega)), Below.refl _ _⟩
    case round =>
      obtain ⟨k, hk, rfl, hp, hb⟩ := hrel
      by_cases hlt : k < n
      · obtain ⟨b1, off, rfl, l1, hc⟩ := tm_cells HR.out hl.out (by omega)
        obtain ⟨b2, off', rfl, l2, hc'⟩ := tm_cells HR'.out hl'.out (by omega)
        obtain ⟨x, hx⟩ : ∃ x, xs[k]? = some x := ⟨xs[k]'(by rw [hl.out]; exact hlt), List.getElem?_eq_getElem _⟩
        obtain ⟨y, hy⟩ : ∃ y, ys[k]? = some y := ⟨ys[k]'(by rw [hl'.out]; exact hlt), List.getElem?_eq_getElem _⟩
        obtain ⟨x0, x1, x2⟩ := hc k x hx
        obtain ⟨y0, y1, y2⟩ := hc' k y hy
        have k1 : ∀ o, w.cell? ⟨b1, o, none⟩ = wr.cell? ⟨b1, o, none⟩ := fun o => (hb.out.cell (p := ⟨b1, o, none⟩) l1).symm
        have k2 : ∀ o, w.cell? ⟨b2, o, none⟩ = wr.cell? ⟨b2, o, none⟩ := fun o => (hb.out.cell (p := ⟨b2, o, none⟩) l2).symm
        rw [k1] at x0 x1 x2
        rw [k2] at y0 y1 y2
        simp only [← Nat.add_assoc, Nat.add_zero] at x0 x1 x2 y0 y1 y2
        have hq := fun W => run_neq_tim x.1 y.1 x.2.1 y.2.1 x.2.2 y.2.2 W
        have hiff := eqB_tim_iff x.1 y.1 x.2.1 y.2.1 x.2.2 y.2.2
        generalize eqB_tim x.1 y.1 x.2.1 y.2.1 x.2.2 y.2.2 = bb at hiff hq
        have hxy : (x.1 = y.1 ∧ x.2.1 = y.2.1 ∧ x.2.2 = y.2.2) ↔ x = y := by
          obtain ⟨a0, a1, a2⟩ := x
          obtain ⟨c0, c1, c2⟩ := y
          simp
        have hne' := Lib.hid (fun h : ¬ x = y => hne.out k (by rw [hx, hy]; exact fun e => h (Option.some.inj e)))
        have hp' := Lib.hid (fun (h : x = y) (j : Nat) (hj : j < k + 1) => (show xs[j]? = ys[j]? from by
          by_cases e : j = k
          · rw [e, hx, hy, h]
          · exact hp.out j (by omega)))
        clear hc hc' HR HR' hne heq k1 k2 hx hy l1 l2
        have hk1 := Lib.hid (show k + 1 ≤ n from hlt)
        have i1 : (0 : Int) ≤ (k : Int) := by omega
        have i2 : (k : Int) < (n : Int) := by omega
        by_cases he : x = y
        · have hp2 := Lib.hid (hp'.out he)
          obtain rfl : bb = true := hiff.trans (decide_eq_true (hxy.2 he))
          clear hiff hxy
          clear hp' hne'
          replace he := Lib.hid he
          go_wp2_with fail
          go_quiet (fail)
          go_wp2_with fail
          go_roundw
          case rel => exact ⟨k+1, hk1.out, by go_num, hp2, hb.out.trans ((Keeps.drewN _ _).to_below.mono hb.out.size)⟩
          case measure => have := hk1.out; simp [intOf]; omega
        · have hb2 := Lib.hid (hne'.out he)
          obtain rfl : bb = false := hiff.trans (decide_eq_false fun e => he (hxy.1 e))
          clear hiff hxy
          clear hp' hne'
          replace he := Lib.hid he
          go_wp2_with fail
          go_quiet (fail)
          go_wp2_with fail
          go_ret
          exact ⟨by rw [hb2.out]; rfl, hb.out.trans ((Keeps.drewN _ _).to_below.mono hb.out.size)⟩
      · obtain rfl : k = n := by omega
        have hb2 := Lib.hid (heq.out hp.out)
        clear hne heq
        go_wp2
        go_ret
        exact ⟨by rw [hb2.out]; rfl, hb.out⟩
  · have hb := Lib.hid (show decide (xs = ys) = false from decide_eq_false (fun e => hlen (by rw [e])))
    have i1 : ¬ ((xs.length : Int) = (ys.length : Int)) := by omega
    generalize decide (xs = ys) = b at *
    clear hu hv
    go_enter Try.func15, Try.ntmps15
    go_wp2
    go_ret
    exact ⟨by rw [hb.out]; rfl, Below.refl _ _⟩
theorem set_at (p : Nat) (now : Int) (L M : List Tm) (at_ who mark : Int) (w : World) (rs : List Res) (hS : Sep w (clockR p now L :: rs)) (h : now < at_) (hk : L.any (keyB who mark) = false) (hM : insT (at_, who, mark) L = M) (hn : L.length ≤ 900) : Calls Try.prog 9 #[.pointer (some ⟨p, 0, none⟩), .int .i64 at_, .int .i64 who, .int .i64 mark] w fun e w' => e = .returned (.int .i64 0) ∧ Sep w' (clockR p now M :: rs) := by
  subst hM
  exact set_new p now L at_ who mark w rs hS h hk hn
theorem pass_at (p : Nat) (now n now2 : Int) (m : Nat) (L A B : List Tm) (w : World) (rs : List Res) (hS : Sep w (clockR p now L :: rs)) (hL : L.length ≤ 900) (h0 : 0 ≤ n) (h1 : n ≤ 1000) (hw0 : 0 ≤ now) (hw1 : now ≤ 9223372036854775807) (he : later now n = now2) (hm : dueN now2 L = m) (hA : L.take m = A) (hB : L.drop m = B) :
    Calls Try.prog 12 #[.pointer (some ⟨p, 0, none⟩), .int .i64 n] w fun e w' => ∃ (a : Option Addr) (c : Nat), e = .returned (.tuple #[.slice a m c, .int .i64 0]) ∧
      Sep w' (vec 34 3 (.slice a m c) m (A.flatMap tC) :: clockR p now2 B :: rs) := by
  subst he hm hA hB
  exact pass_ok p now n L w rs hS hL h0 h1 hw0 hw1
theorem rl_cells (w : World) (B : Nat) (t : TypeId) (xs : List Tm) (n c : Nat) (hn : xs.length = n) (hc : n ≤ c) {rs : List Res} (h : Sep w (blk B t (xs.flatMap tC).toArray :: rs)) : RL w (.slice (some ⟨B, 0, none⟩) n c) 3 n (xs.flatMap tC) := by
  refine ⟨by rw [flat_len tC 3 tC_len, hn], _, _, rfl, hc, (fun h => by cases h), fun _ => ⟨B, 0, rfl, h.gblk.lt, fun j u hu => ?_⟩⟩
  have := h.gblk.cell j
  rw [Nat.zero_add, this]
  simpa using hu
set_option maxRecDepth 100000 in
set_option maxHeartbeats 4000000 in
theorem lives_any (w : World) : Calls Try.prog 7 #[] w fun e w' => e = .returned (.bool true) ∧ Below w.heap.size w w' := by
  have H1 := Lib.hid (new_any w)
  go_enter Try.func7, Try.ntmps7
  go_wp2_with fail
  refine H1.out.mono ?_
  rintro e w1 ⟨p, rfl, hS⟩
  have H2 := Lib.hid (set_at p 0 [] [(3, 1, 0)] 3 1 0 w1 _ hS (by omega) rfl rfl (by decide))
  clear H1 hS
  go_wp2_with fail
  refine H2.out.mono ?_
  rintro e w2 ⟨rfl, hS⟩
  have H3 := Lib.hid (set_at p 0 [(3, 1, 0)] [(2, 2, 0), (3, 1, 0)] 2 2 0 w2 _ hS (by omega) (by decide) (by decide) (by decide))
  clear H2 hS
  go_wp2_with fail
  refine H3.out.mono ?_
  rintro e w3 ⟨rfl, hS⟩
  have H4 := Lib.hid (pass_at p 0 2 2 1 [(2, 2, 0), (3, 1, 0)] [(2, 2, 0)] [(3, 1, 0)] w3 _ hS (by decide) (by omega) (by omega) (by omega) (by omega) (by decide) (by decide) rfl rfl)
  clear H3 hS
  go_wp2_with fail
  refine H4.out.mono ?_
  rintro e w4 ⟨a1, c1, rfl, hS⟩
  have H5 := Lib.hid (pass_at p 2 1 3 1 [(3, 1, 0)] [(3, 1, 0)] [] w4 _ hS.to1 (by decide) (by omega) (by omega) (by omega) (by omega) (by decide) (by decide) rfl rfl)
  clear H4 hS
  go_wp2_with fail
  refine H5.out.mono ?_
  rintro e w5 ⟨a2, c2, rfl, hS⟩
  replace hS := Lib.hid hS
  clear H5
  go_wp2_with fail
  have hA := hS.out.alloc #[.int .i64 2, .int .i64 2, .int .i64 0] 34
  have Q1 := Lib.hid (same_tm (.slice a1 1 c1) (.slice (some ⟨w5.heap.size, 0, none⟩) 1 1) [(2, 2, 0)] [(2, 2, 0)] _ (by decide) ((hA.bring 3 rfl).vec_rl) (rl_cells _ w5.heap.size 34 [(2, 2, 0)] 1 1 rfl (by omega) hA))
  rw [decide_eq_true rfl] at Q1
  clear hA
  refine Q1.out.mono ?_
  rintro e w6 ⟨rfl, b6⟩
  replace hS := Lib.hid ((hS.out.allocG _).below b6)
  clear Q1 b6
  go_wp2_with fail
  have hA := hS.out.alloc #[.int .i64 3, .int .i64 1, .int .i64 0] 34
  have Q1 := Lib.hid (same_tm (.slice a2 1 c2) (.slice (some ⟨w6.heap.size, 0, none⟩) 1 1) [(3, 1, 0)] [(3, 1, 0)] _ (by decide) (hA.to1.vec_rl) (rl_cells _ w6.heap.size 34 [(3, 1, 0)] 1 1 rfl (by omega) hA))
  rw [decide_eq_true rfl] at Q1
  clear hA
  refine Q1.out.mono ?_
  rintro e w7 ⟨rfl, b6⟩
  replace hS := Lib.hid ((hS.out.allocG _).below b6)
  clear Q1 b6
  go_wp2_with fail
  go_ret
  exact ⟨rfl, hS.out.tail.tail.tail.gold⟩
end Go.Proofs.Ytcbjgibcgalppaa
