/-
  Timers as three cells: how they compare, Less, Len. No condition beside timers that can be read.
-/
import Derived.Test.YtcbjgibcgalppaaRL
import Derived.Test.YtcbjgibcgalppaaHlN
import Derived.Test.YtcbjgibcgalppaaTHp
import Derived.BigRegion
import Derived.Shelf.Sort.Plain
namespace Go.Proofs.Ytcbjgibcgalppaa
open Go.RowKit Go.Shelf Go.Sort
/-- A timer: when, whose, its mark. -/
abbrev Tm := Int × Int × Int
def tC (x : Tm) : List Value := [.int .i64 x.1, .int .i64 x.2.1, .int .i64 x.2.2]
theorem tC_len (x : Tm) : (tC x).length = 3 := rfl
abbrev tV (x : Tm) : Value := .agg #[.int .i64 x.1, .int .i64 x.2.1, .int .i64 x.2.2]
def cmI (x y : Int) : Int := if x < y then -1 else if y < x then 1 else 0
theorem isNaNL_any (x : Int) (w : World) : Calls Try.prog 52 #[.int .i64 x] w fun e w' => e = .returned (.bool false) ∧ w' = w := by
  have h : (x != x) = false := by simp
  go_enter Try.func52, Try.ntmps52
  go_wp2_with fail
  go_ret
  exact ⟨rfl, rfl⟩
theorem compareL_any (x y : Int) (w : World) : Calls Try.prog 47 #[.int .i64 x, .int .i64 y] w fun e w' => e = .returned (.int .i64 (cmI x y)) ∧ w' = w := by
  have hlt : x < y → cmI x y = -1 := fun h => by unfold cmI; simp [h]
  have hgt : y < x → cmI x y = 1 := fun h => by
    have h2 : ¬ x < y := by omega
    unfold cmI; simp [h, h2]
  have heq : x = y → cmI x y = 0 := fun h => by
    have h2 : ¬ x < y := by omega
    have h3 : ¬ y < x := by omega
    unfold cmI; simp [h2, h3]
  by_cases h1 : x < y
  · rw [hlt h1]
    clear hlt hgt heq
    go_enter Try.func47, Try.ntmps47
    go_wp2_with fail
    refine (isNaNL_any _ _).mono ?_
    rintro e w1 ⟨rfl, rfl⟩
    go_wp2_with fail
    refine (isNaNL_any _ _).mono ?_
    rintro e w2 ⟨rfl, rfl⟩
    go_wp2_with fail
    go_ret
    exact ⟨rfl, rfl⟩
  · by_cases h2 : y < x
    · rw [hgt h2]
      clear hlt hgt heq
      go_enter Try.func47, Try.ntmps47
      go_wp2_with fail
      refine (isNaNL_any _ _).mono ?_
      rintro e w1 ⟨rfl, rfl⟩
      go_wp2_with fail
      refine (isNaNL_any _ _).mono ?_
      rintro e w2 ⟨rfl, rfl⟩
      go_wp2_with fail
      go_ret
      exact ⟨rfl, rfl⟩
    · rw [heq (by omega)]
      clear hlt hgt heq
      go_enter Try.func47, Try.ntmps47
      go_wp2_with fail
      refine (isNaNL_any _ _).mono ?_
      rintro e w1 ⟨rfl, rfl⟩
      go_wp2_with fail
      refine (isNaNL_any _ _).mono ?_
      rintro e w2 ⟨rfl, rfl⟩
      go_wp2_with fail
      go_ret
      exact ⟨rfl, rfl⟩
theorem isNaNI_any (x : Int) (w : World) : Calls Try.prog 53 #[.int .i64 x] w fun e w' => e = .returned (.bool false) ∧ w' = w := by
  have h : (x != x) = false := by simp
  go_enter Try.func53, Try.ntmps53
  go_wp2_with fail
  go_ret
  exact ⟨rfl, rfl⟩
theorem compareI_any (x y : Int) (w : World) : Calls Try.prog 48 #[.int .i64 x, .int .i64 y] w fun e w' => e = .returned (.int .i64 (cmI x y)) ∧ w' = w := by
  have hlt : x < y → cmI x y = -1 := fun h => by unfold cmI; simp [h]
  have hgt : y < x → cmI x y = 1 := fun h => by
    have h2 : ¬ x < y := by omega
    unfold cmI; simp [h, h2]
  have heq : x = y → cmI x y = 0 := fun h => by
    have h2 : ¬ x < y := by omega
    have h3 : ¬ y < x := by omega
    unfold cmI; simp [h2, h3]
  by_cases h1 : x < y
  · rw [hlt h1]
    clear hlt hgt heq
    go_enter Try.func48, Try.ntmps48
    go_wp2_with fail
    refine (isNaNI_any _ _).mono ?_
    rintro e w1 ⟨rfl, rfl⟩
    go_wp2_with fail
    refine (isNaNI_any _ _).mono ?_
    rintro e w2 ⟨rfl, rfl⟩
    go_wp2_with fail
    go_ret
    exact ⟨rfl, rfl⟩
  · by_cases h2 : y < x
    · rw [hgt h2]
      clear hlt hgt heq
      go_enter Try.func48, Try.ntmps48
      go_wp2_with fail
      refine (isNaNI_any _ _).mono ?_
      rintro e w1 ⟨rfl, rfl⟩
      go_wp2_with fail
      refine (isNaNI_any _ _).mono ?_
      rintro e w2 ⟨rfl, rfl⟩
      go_wp2_with fail
      go_ret
      exact ⟨rfl, rfl⟩
    · rw [heq (by omega)]
      clear hlt hgt heq
      go_enter Try.func48, Try.ntmps48
      go_wp2_with fail
      refine (isNaNI_any _ _).mono ?_
      rintro e w1 ⟨rfl, rfl⟩
      go_wp2_with fail
      refine (isNaNI_any _ _).mono ?_
      rintro e w2 ⟨rfl, rfl⟩
      go_wp2_with fail
      go_ret
      exact ⟨rfl, rfl⟩
/-- The first one that is not 0. -/
def fnz : List Int → Int
  | [] => 0
  | x :: l => if x ≠ 0 then x else fnz l
theorem or_any (xs : List Int) (g n c : Nat) (w : World) (hl : xs.length = n) (hn : n ≤ 100) (hc : ∀ j u, (xs.map (Value.int .i64))[j]? = some u → w.cell? ⟨g, j, none⟩ = some u) :
    Calls Try.prog 46 #[.slice (some ⟨g, 0, none⟩) n c] w fun e w' => e = .returned (.int .i64 (fnz xs)) ∧ w' = w := by
  replace hc := Lib.hid hc
  replace hl := Lib.hid hl
  go_enter Try.func46, Try.ntmps46
  go_wp2_with fail
  go_loopw [8] (fun i wr => ∃ k : Nat, k ≤ n ∧ i = .int .i64 k ∧ wr = w ∧ Hid (fnz xs = fnz (xs.drop k))) (fun i _ => n - (intOf i).toNat)
  case atStart => exact ⟨0, by omega, rfl, rfl, rfl⟩
  case round =>
    obtain ⟨k, hk, rfl, rfl, hE⟩ := hrel
    by_cases hlt : k < n
    · have hkl : k < xs.length := by rw [hl.out]; exact hlt
      have c0 := hc.out k (.int .i64 xs[k]) (by simp [hkl])
      have hd := Lib.hid (List.drop_eq_getElem_cons hkl)
      generalize xs[k] = x at *
      have i1 : (0 : Int) ≤ (k : Int) := by omega
      have i2 : (k : Int) < (n : Int) := by omega
      by_cases hx : x = 0
      · subst hx
        have hE2 := Lib.hid (show fnz xs = fnz (xs.drop (k + 1)) by rw [hE.out, hd.out]; simp [fnz])
        clear hE hd
        go_wp2_with fail
        go_roundw
        case rel => exact ⟨k + 1, by omega, by go_num, by first | rfl | trivial, hE2⟩
        case measure => simp [intOf]; omega
      · have h' : (x != 0) = true := by simpa using hx
        have hE2 := Lib.hid (show fnz xs = x by rw [hE.out, hd.out]; simp [fnz, hx])
        clear hE hd
        go_wp2_with fail
        go_ret
        rw [hE2.out]
        exact ⟨rfl, rfl⟩
    · have hkn : k = n := by omega
      have hE2 := Lib.hid (show fnz xs = 0 by rw [hE.out, List.drop_eq_nil_of_le (by rw [hl.out]; omega)]; rfl)
      clear hE
      go_wp2_with fail
      go_ret
      rw [hE2.out]
      exact ⟨rfl, rfl⟩
/-- What the sort's worlds are: draws, and new blocks. -/
theorem sgrow_alloc {w w' : World} (h : ∃ q os, w' = grow (w.drewN q) os) (o : Obj) : ∃ q os, w'.alloc o = grow (w.drewN q) os := by
  obtain ⟨q, os, rfl⟩ := h
  exact ⟨q, os ++ #[o], by rw [alloc_eq_grow, grow_grow]⟩
theorem sgrow_drew {w w' : World} (h : ∃ q os, w' = grow (w.drewN q) os) : ∃ q os, w'.drew = grow (w.drewN q) os := by
  obtain ⟨q, os, rfl⟩ := h
  exact ⟨q + 1, os, rfl⟩
/-- How timers compare. -/
def cmpT (a b : Tm) : Int := fnz [cmI a.1 b.1, cmI a.2.1 b.2.1, cmI a.2.2 b.2.2]
theorem box2t (w : World) (b0 b1 : Array Value) : Sep ((w.alloc (.cells b0 61)).alloc (.cells b1 61)) [blk (w.heap.size + 1) 61 b1, blk w.heap.size 61 b0, old w] := by
  have := ((Sep.start w).alloc b0 61).alloc b1 61
  rw [World.size_alloc] at this
  exact this
set_option maxHeartbeats 1000000 in
theorem compareT_any (a b : Tm) (W : World) : Calls Try.prog 42 #[tV a, tV b] W fun e w' => e = .returned (.int .i64 (cmpT a b)) ∧ (∃ q os', w' = grow (W.drewN q) os') ∧ Below W.heap.size W w' := by
  obtain ⟨a0, a1, a2⟩ := a
  obtain ⟨b0, b1, b2⟩ := b
  unfold cmpT tV
  have H1 := Lib.hid (fun V => compareL_any a0 b0 V)
  have H2 := Lib.hid (fun V => compareI_any a1 b1 V)
  have H3 := Lib.hid (fun V => compareI_any a2 b2 V)
  simp only
  generalize cmI a0 b0 = q0 at *
  generalize cmI a1 b1 = q1 at *
  generalize cmI a2 b2 = q2 at *
  have HO := Lib.hid (fun (g c : Nat) (w : World) => or_any [q0, q1, q2] g 3 c w rfl (by omega))
  generalize fnz [q0, q1, q2] = R at *
  have hB := Lib.hid (box2t W #[.int .i64 a0, .int .i64 a1, .int .i64 a2] #[.int .i64 b0, .int .i64 b1, .int .i64 b2])
  have hG := Lib.hid (sgrow_drew (sgrow_alloc (sgrow_alloc (⟨0, #[], (grow_empty _).symm⟩ : ∃ q os, W = grow (W.drewN q) os) (.cells #[.int .i64 a0, .int .i64 a1, .int .i64 a2] 61)) (.cells #[.int .i64 b0, .int .i64 b1, .int .i64 b2] 61)))
  go_enter Try.func42, Try.ntmps42
  go_wp2_with fail
  have hS := Lib.hid (show (fun V : World => Sep V [blk (W.heap.size + 1) 61 #[.int .i64 b0, .int .i64 b1, .int .i64 b2], blk W.heap.size 61 #[.int .i64 a0, .int .i64 a1, .int .i64 a2], old W]) _ from hB.out.drew)
  refine hl_begin (fun V : World => Sep V [blk (W.heap.size + 1) 61 #[.int .i64 b0, .int .i64 b1, .int .i64 b2], blk W.heap.size 61 #[.int .i64 a0, .int .i64 a1, .int .i64 a2], old W]) [(0, true), (1, true), (2, true), (3, true), (5, true), (6, true), (7, true), (8, true), (10, true), (11, true), (12, true), (13, true), (4, false), (9, false), (14, false), (15, false), (16, false), (17, true)] (by kernel_rfl) (by kernel_rfl) (by kernel_rfl) rfl (fun _ _ _ _ _ h => h) hS.out ?_
  change HL _ _ _ _ _ _ (World.drew _)
  generalize World.drew _ = wd at *
  refine hl_take ?v1 rfl (by kernel_rfl) ?y1 ?z1
  case y1 => intro W hW; skip; replace hW := Lib.hid hW; go_simp; try rfl
  case z1 =>
  simp only [Act.put, List.setIfInBounds_toArray, List.set_cons_succ, List.set_cons_zero, List.getElem_toArray, List.getElem_cons_zero]
  refine hl_take ?v2 rfl (by kernel_rfl) ?y2 ?z2
  case y2 => intro W hW; obtain ⟨_, c0, c1, c2, _⟩ := (show Sep _ _ from hW).b3; obtain ⟨_, d0, d1, d2, _⟩ := (show Sep _ _ from hW).to1.b3; replace hW := Lib.hid hW; go_simp; try rfl
  case z2 =>
  simp only [Act.put, List.setIfInBounds_toArray, List.set_cons_succ, List.set_cons_zero, List.getElem_toArray, List.getElem_cons_zero, List.getElem_cons_succ]
  refine hl_take ?v3 rfl (by kernel_rfl) ?y3 ?z3
  case y3 => intro W hW; skip; replace hW := Lib.hid hW; go_simp; try rfl
  case z3 =>
  simp only [Act.put, List.setIfInBounds_toArray, List.set_cons_succ, List.set_cons_zero, List.getElem_toArray, List.getElem_cons_zero, List.getElem_cons_succ]
  refine hl_take ?v4 rfl (by kernel_rfl) ?y4 ?z4
  case y4 => intro W hW; obtain ⟨_, c0, c1, c2, _⟩ := (show Sep _ _ from hW).b3; obtain ⟨_, d0, d1, d2, _⟩ := (show Sep _ _ from hW).to1.b3; replace hW := Lib.hid hW; go_simp; try rfl
  case z4 =>
  simp only [Act.put, List.setIfInBounds_toArray, List.set_cons_succ, List.set_cons_zero, List.getElem_toArray, List.getElem_cons_zero, List.getElem_cons_succ]
  refine hl_take ?v5 rfl (by kernel_rfl) ?y5 ?z5
  case y5 => intro W hW; skip; replace hW := Lib.hid hW; go_simp; try rfl
  case z5 =>
  simp only [Act.put, List.setIfInBounds_toArray, List.set_cons_succ, List.set_cons_zero, List.getElem_toArray, List.getElem_cons_zero, List.getElem_cons_succ]
  refine hl_take ?v6 rfl (by kernel_rfl) ?y6 ?z6
  case y6 => intro W hW; obtain ⟨_, c0, c1, c2, _⟩ := (show Sep _ _ from hW).b3; obtain ⟨_, d0, d1, d2, _⟩ := (show Sep _ _ from hW).to1.b3; replace hW := Lib.hid hW; go_simp; try rfl
  case z6 =>
  simp only [Act.put, List.setIfInBounds_toArray, List.set_cons_succ, List.set_cons_zero, List.getElem_toArray, List.getElem_cons_zero, List.getElem_cons_succ]
  refine hl_take ?v7 rfl (by kernel_rfl) ?y7 ?z7
  case y7 => intro W hW; skip; replace hW := Lib.hid hW; go_simp; try rfl
  case z7 =>
  simp only [Act.put, List.setIfInBounds_toArray, List.set_cons_succ, List.set_cons_zero, List.getElem_toArray, List.getElem_cons_zero, List.getElem_cons_succ]
  refine hl_take ?v8 rfl (by kernel_rfl) ?y8 ?z8
  case y8 => intro W hW; obtain ⟨_, c0, c1, c2, _⟩ := (show Sep _ _ from hW).b3; obtain ⟨_, d0, d1, d2, _⟩ := (show Sep _ _ from hW).to1.b3; replace hW := Lib.hid hW; go_simp; try rfl
  case z8 =>
  simp only [Act.put, List.setIfInBounds_toArray, List.set_cons_succ, List.set_cons_zero, List.getElem_toArray, List.getElem_cons_zero, List.getElem_cons_succ]
  refine hl_take ?v9 rfl (by kernel_rfl) ?y9 ?z9
  case y9 => intro W hW; skip; replace hW := Lib.hid hW; go_simp; try rfl
  case z9 =>
  simp only [Act.put, List.setIfInBounds_toArray, List.set_cons_succ, List.set_cons_zero, List.getElem_toArray, List.getElem_cons_zero, List.getElem_cons_succ]
  refine hl_take ?v10 rfl (by kernel_rfl) ?y10 ?z10
  case y10 => intro W hW; obtain ⟨_, c0, c1, c2, _⟩ := (show Sep _ _ from hW).b3; obtain ⟨_, d0, d1, d2, _⟩ := (show Sep _ _ from hW).to1.b3; replace hW := Lib.hid hW; go_simp; try rfl
  case z10 =>
  simp only [Act.put, List.setIfInBounds_toArray, List.set_cons_succ, List.set_cons_zero, List.getElem_toArray, List.getElem_cons_zero, List.getElem_cons_succ]
  refine hl_take ?v11 rfl (by kernel_rfl) ?y11 ?z11
  case y11 => intro W hW; skip; replace hW := Lib.hid hW; go_simp; try rfl
  case z11 =>
  simp only [Act.put, List.setIfInBounds_toArray, List.set_cons_succ, List.set_cons_zero, List.getElem_toArray, List.getElem_cons_zero, List.getElem_cons_succ]
  refine hl_take ?v12 rfl (by kernel_rfl) ?y12 ?z12
  case y12 => intro W hW; obtain ⟨_, c0, c1, c2, _⟩ := (show Sep _ _ from hW).b3; obtain ⟨_, d0, d1, d2, _⟩ := (show Sep _ _ from hW).to1.b3; replace hW := Lib.hid hW; go_simp; try rfl
  case z12 =>
  simp only [Act.put, List.setIfInBounds_toArray, List.set_cons_succ, List.set_cons_zero, List.getElem_toArray, List.getElem_cons_zero, List.getElem_cons_succ]
  refine hl_one rfl (by kernel_rfl) (fun K hK => ?_)
  go_simp
  refine (H1.out _).mono ?_
  rintro e w1 ⟨rfl, hw⟩
  subst hw
  refine hK.out _ _ hS.out ?_
  clear hK K
  try simp only [Act.put, List.setIfInBounds_toArray, List.set_cons_succ, List.set_cons_zero, List.getElem_toArray, List.getElem_cons_zero, List.getElem_cons_succ]
  refine hl_one rfl (by kernel_rfl) (fun K hK => ?_)
  go_simp
  refine (H2.out _).mono ?_
  rintro e w1 ⟨rfl, hw⟩
  subst hw
  refine hK.out _ _ hS.out ?_
  clear hK K
  try simp only [Act.put, List.setIfInBounds_toArray, List.set_cons_succ, List.set_cons_zero, List.getElem_toArray, List.getElem_cons_zero, List.getElem_cons_succ]
  refine hl_one rfl (by kernel_rfl) (fun K hK => ?_)
  go_simp
  refine (H3.out _).mono ?_
  rintro e w1 ⟨rfl, hw⟩
  subst hw
  refine hK.out _ _ hS.out ?_
  clear hK K
  try simp only [Act.put, List.setIfInBounds_toArray, List.set_cons_succ, List.set_cons_zero, List.getElem_toArray, List.getElem_cons_zero, List.getElem_cons_succ]
  refine hl_one rfl (by kernel_rfl) (fun K hK => ?_)
  go_simp
  have hN := Lib.hid ((show Sep _ _ from hS.out).alloc #[.int .i64 q0, .int .i64 q1, .int .i64 q2] 3)
  replace hG := Lib.hid (sgrow_alloc hG.out (.cells #[.int .i64 q0, .int .i64 q1, .int .i64 q2] 3))
  replace hS := Lib.hid (show (fun V : World => Sep V [blk (W.heap.size + 1) 61 #[.int .i64 b0, .int .i64 b1, .int .i64 b2], blk W.heap.size 61 #[.int .i64 a0, .int .i64 a1, .int .i64 a2], old W]) _ from (show Sep _ _ from hS.out).allocG (.cells #[.int .i64 q0, .int .i64 q1, .int .i64 q2] 3))
  refine hK.out _ _ hS.out ?_
  clear hK K
  try simp only [Act.put, List.setIfInBounds_toArray, List.set_cons_succ, List.set_cons_zero, List.getElem_toArray, List.getElem_cons_zero, List.getElem_cons_succ]
  refine hl_one rfl (by kernel_rfl) (fun K hK => ?_)
  go_simp
  refine (HO.out _ _ _ (fun j u hu => by have h := hN.out.gblk.cell j; rw [h, ← hu]; simp)).mono ?_
  rintro e w1 ⟨rfl, hw⟩
  subst hw
  refine hK.out _ _ hS.out ?_
  clear hK K
  try simp only [Act.put, List.setIfInBounds_toArray, List.set_cons_succ, List.set_cons_zero, List.getElem_toArray, List.getElem_cons_zero, List.getElem_cons_succ]
  refine hl_take ?v13 rfl (by kernel_rfl) ?y13 ?z13
  case y13 => intro W hW; skip; replace hW := Lib.hid hW; go_simp; try rfl
  case z13 =>
  simp only [Act.put, List.setIfInBounds_toArray, List.set_cons_succ, List.set_cons_zero, List.getElem_toArray, List.getElem_cons_zero, List.getElem_cons_succ]
  refine hl_done ?_
  skip
  go_wp2_with fail
  go_ret
  exact ⟨rfl, hG.out, (show Sep _ _ from hS.out).tail.tail.gold⟩
theorem cmI_lt (x y : Int) : (cmI x y < 0) = (x < y) ∧ (cmI x y = 0) = (x = y) := by
  unfold cmI
  by_cases h1 : x < y
  · simp [h1]; omega
  · by_cases h2 : y < x
    · simp [h1, h2]; omega
    · simp [h1, h2]; omega
def ltT (a b : Tm) : Bool := decide (cmpT a b < 0)
theorem ltT_iff (a b : Tm) : ltT a b = true ↔ a.1 < b.1 ∨ a.1 = b.1 ∧ (a.2.1 < b.2.1 ∨ a.2.1 = b.2.1 ∧ a.2.2 < b.2.2) := by
  unfold ltT cmpT
  obtain ⟨h1, h2⟩ := cmI_lt a.1 b.1
  obtain ⟨h3, h4⟩ := cmI_lt a.2.1 b.2.1
  obtain ⟨h5, h6⟩ := cmI_lt a.2.2 b.2.2
  rw [decide_eq_true_iff]
  simp only [fnz]
  by_cases z1 : cmI a.1 b.1 = 0
  · rw [if_neg (by simpa using z1)]
    rw [h2] at z1
    by_cases z2 : cmI a.2.1 b.2.1 = 0
    · rw [if_neg (by simpa using z2)]
      rw [h4] at z2
      by_cases z3 : cmI a.2.2 b.2.2 = 0
      · rw [if_neg (by simpa using z3)]
        rw [h6] at z3
        omega
      · rw [if_pos (by simpa using z3), h5]
        omega
    · rw [if_pos (by simpa using z2), h3]
      rw [h4] at z2
      omega
  · rw [if_pos (by simpa using z1), h1]
    rw [h2] at z1
    omega
theorem ltT_no (a b : Tm) : ltT a b = false ↔ b.1 < a.1 ∨ a.1 = b.1 ∧ (b.2.1 < a.2.1 ∨ a.2.1 = b.2.1 ∧ b.2.2 ≤ a.2.2) := by
  rw [← Bool.not_eq_true, ltT_iff]
  omega
theorem ordT : Ord1 ltT := by
  refine ⟨fun a => ?_, fun a b c h1 h2 => ?_, fun a b h => ?_⟩
  · rw [ltT_no]; omega
  · rw [ltT_no] at *; omega
  · rw [ltT_iff] at h; rw [ltT_no]; omega
end Go.Proofs.Ytcbjgibcgalppaa
