/-
  The youngest: younger, MaxFunc, Choose. No condition beside lists that can be read.
-/
import Derived.Test.YthbamhfnemdebaaVAg
namespace Go.Proofs.Ythbamhfnemdebaa
open Go.RowKit
theorem belT {w w1 w2 : World} (h : Below w.heap.size w w1) (h2 : Below w1.heap.size w1 w2) : Below w.heap.size w w2 := h.trans (h2.mono h.size)
/-- How two compare: by age, then by number. -/
def cmpY (A : List Ag) (x y : Int) : Int := if Lib.compareInt (ageL A x) (ageL A y) ≠ 0 then Lib.compareInt (ageL A x) (ageL A y) else Lib.compareInt x y
theorem Below.drew1 (w : World) : Below w.heap.size w w.drew := ((Sep.start w).drew).gold
set_option maxHeartbeats 4000000 in
set_option maxRecDepth 100000 in
theorem younger_any (bx : Nat) (v : Value) (A : List Ag) (x y : Int) (w : World) (h0 : w.cell? ⟨bx, 0, none⟩ = some v) (hbx : bx < w.heap.size) (hv : RL w v 2 A.length (A.flatMap Ag.cells)) (hl : A.length ≤ 1000) :
    Calls Try.prog 38 #[.int .i64 x, .int .i64 y, .pointer (some ⟨bx, 0, none⟩)] w fun e w' => e = .returned (.int .i64 (cmpY A x y)) ∧ Below w.heap.size w w' := by
  have hAx := Lib.hid (fun V (h : Below w.heap.size w V) => age_any v A x V (hv.below h) hl)
  have hAy := Lib.hid (fun V (h : Below w.heap.size w V) => age_any v A y V (hv.below h) hl)
  have hc : cmpY A x y = if Lib.compareInt (ageL A x) (ageL A y) ≠ 0 then Lib.compareInt (ageL A x) (ageL A y) else Lib.compareInt x y := rfl
  generalize ageL A x = ax at *
  generalize ageL A y = ay at *
  obtain ⟨c1, hc1⟩ : ∃ c1, Hid (Lib.compareInt ax ay = c1) := ⟨_, rfl⟩
  obtain ⟨c2, hc2⟩ : ∃ c2, Hid (Lib.compareInt x y = c2) := ⟨_, rfl⟩
  rw [hc1.out, hc2.out] at hc
  rw [hc]
  have hC1 := Lib.hid (fun V => compare64_any ax ay V)
  have hC2 := Lib.hid (fun V => compareI_any x y V)
  simp only [hc1.out] at hC1
  simp only [hc2.out] at hC2
  obtain ⟨R, hR⟩ : ∃ R, Hid ((if c1 ≠ 0 then c1 else c2) = R) := ⟨_, rfl⟩
  have hO := Lib.hid (fun g c V h1 h2 => or2_any c1 c2 g c V h1 h2)
  simp only [hR.out] at hO
  rw [hR.out]
  clear hc hv hc1 hc2 hR
  go_enter Try.func38, Try.ntmps38
  go_wp2_with fail
  have hS := Lib.hid (show (fun V : World => Below w.heap.size w V) _ from Below.drew1 w)
  refine hl_begin (fun V : World => Below w.heap.size w V) [(0, true), (1, true), (3, true), (4, true), (7, true), (8, true), (2, false), (5, false), (6, false), (9, false), (10, false), (11, false), (12, true)] (by kernel_rfl) (by kernel_rfl) (by kernel_rfl) rfl (fun _ _ _ _ _ h => h) hS.out ?_
  change HL _ _ _ _ _ _ (World.drew _)
  generalize World.drew _ = wd at *
  refine hl_take ?v1 rfl (by kernel_rfl) ?y1 ?z1
  case y1 => intro W hW; have z := ((show Below w.heap.size w W from hW).cell (p := ⟨bx, 0, none⟩) hbx).trans h0; replace hW := Lib.hid hW; go_simp; try rfl
  case z1 =>
  simp only [Act.put, List.setIfInBounds_toArray, List.set_cons_succ, List.set_cons_zero, List.getElem_toArray, List.getElem_cons_zero, List.getElem_cons_succ]
  refine hl_take ?v2 rfl (by kernel_rfl) ?y2 ?z2
  case y2 => intro W hW; skip; replace hW := Lib.hid hW; go_simp; try rfl
  case z2 =>
  simp only [Act.put, List.setIfInBounds_toArray, List.set_cons_succ, List.set_cons_zero, List.getElem_toArray, List.getElem_cons_zero, List.getElem_cons_succ]
  refine hl_take ?v3 rfl (by kernel_rfl) ?y3 ?z3
  case y3 => intro W hW; have z := ((show Below w.heap.size w W from hW).cell (p := ⟨bx, 0, none⟩) hbx).trans h0; replace hW := Lib.hid hW; go_simp; try rfl
  case z3 =>
  simp only [Act.put, List.setIfInBounds_toArray, List.set_cons_succ, List.set_cons_zero, List.getElem_toArray, List.getElem_cons_zero, List.getElem_cons_succ]
  refine hl_take ?v4 rfl (by kernel_rfl) ?y4 ?z4
  case y4 => intro W hW; skip; replace hW := Lib.hid hW; go_simp; try rfl
  case z4 =>
  simp only [Act.put, List.setIfInBounds_toArray, List.set_cons_succ, List.set_cons_zero, List.getElem_toArray, List.getElem_cons_zero, List.getElem_cons_succ]
  refine hl_take ?v5 rfl (by kernel_rfl) ?y5 ?z5
  case y5 => intro W hW; skip; replace hW := Lib.hid hW; go_simp; try rfl
  case z5 =>
  simp only [Act.put, List.setIfInBounds_toArray, List.set_cons_succ, List.set_cons_zero, List.getElem_toArray, List.getElem_cons_zero, List.getElem_cons_succ]
  refine hl_take ?v6 rfl (by kernel_rfl) ?y6 ?z6
  case y6 => intro W hW; skip; replace hW := Lib.hid hW; go_simp; try rfl
  case z6 =>
  simp only [Act.put, List.setIfInBounds_toArray, List.set_cons_succ, List.set_cons_zero, List.getElem_toArray, List.getElem_cons_zero, List.getElem_cons_succ]
  refine hl_one rfl (by kernel_rfl) (fun K hK => ?_)
  go_simp
  refine (hAx.out wd hS.out).mono ?_
  rintro e V2 ⟨rfl, q⟩
  replace hS := Lib.hid (show Below w.heap.size w V2 from belT hS.out q)
  clear q
  refine hK.out _ _ hS.out ?_
  clear hK K
  try simp only [Act.put, List.setIfInBounds_toArray, List.set_cons_succ, List.set_cons_zero, List.getElem_toArray, List.getElem_cons_zero, List.getElem_cons_succ]
  refine hl_one rfl (by kernel_rfl) (fun K hK => ?_)
  go_simp
  refine (hAy.out V2 hS.out).mono ?_
  rintro e V3 ⟨rfl, q⟩
  replace hS := Lib.hid (show Below w.heap.size w V3 from belT hS.out q)
  clear q
  refine hK.out _ _ hS.out ?_
  clear hK K
  try simp only [Act.put, List.setIfInBounds_toArray, List.set_cons_succ, List.set_cons_zero, List.getElem_toArray, List.getElem_cons_zero, List.getElem_cons_succ]
  refine hl_one rfl (by kernel_rfl) (fun K hK => ?_)
  go_simp
  refine (hC1.out V3).mono ?_
  rintro e V4 ⟨rfl, rfl⟩
  refine hK.out _ _ hS.out ?_
  clear hK K
  try simp only [Act.put, List.setIfInBounds_toArray, List.set_cons_succ, List.set_cons_zero, List.getElem_toArray, List.getElem_cons_zero, List.getElem_cons_succ]
  refine hl_one rfl (by kernel_rfl) (fun K hK => ?_)
  go_simp
  refine (hC2.out V4).mono ?_
  rintro e V5 ⟨rfl, rfl⟩
  refine hK.out _ _ hS.out ?_
  clear hK K
  try simp only [Act.put, List.setIfInBounds_toArray, List.set_cons_succ, List.set_cons_zero, List.getElem_toArray, List.getElem_cons_zero, List.getElem_cons_succ]
  refine hl_one rfl (by kernel_rfl) (fun K hK => ?_)
  go_simp
  have hB := Lib.hid ((Sep.start V5).alloc #[.int .i64 c1, .int .i64 c2] 3)
  replace hS := Lib.hid (show Below w.heap.size w _ from belT hS.out hB.out.tail.gold)
  refine hK.out _ _ hS.out ?_
  clear hK K
  try simp only [Act.put, List.setIfInBounds_toArray, List.set_cons_succ, List.set_cons_zero, List.getElem_toArray, List.getElem_cons_zero, List.getElem_cons_succ]
  refine hl_one rfl (by kernel_rfl) (fun K hK => ?_)
  go_simp
  refine (hO.out _ _ _ hB.out.b2.2.1 hB.out.b2.2.2.1).mono ?_
  rintro e V6 ⟨rfl, rfl⟩
  refine hK.out _ _ hS.out ?_
  clear hK K
  try simp only [Act.put, List.setIfInBounds_toArray, List.set_cons_succ, List.set_cons_zero, List.getElem_toArray, List.getElem_cons_zero, List.getElem_cons_succ]
  refine hl_take ?v7 rfl (by kernel_rfl) ?y7 ?z7
  case y7 => intro W hW; skip; replace hW := Lib.hid hW; go_simp; try rfl
  case z7 =>
  simp only [Act.put, List.setIfInBounds_toArray, List.set_cons_succ, List.set_cons_zero, List.getElem_toArray, List.getElem_cons_zero, List.getElem_cons_succ]
  refine hl_done ?_
  go_wp2_with fail
  go_ret
  exact ⟨rfl, hS.out⟩
/-- The greatest of some. -/
def maxL (c : Int → Int → Int) (xs : List Int) (m : Int) : Int := xs.foldl (fun m x => if c x m > 0 then x else m) m
theorem eg_yng : ∀ args w, (callFunc 38 args).run Try.prog w = .ok (.enter 38 args) w := enters_of Try.func38 (by kernel_rfl) rfl
set_option maxHeartbeats 4000000 in
theorem maxFunc_any (u : Value) (x0 : Int) (xs : List Int) (g : Nat) (lb : Array Value) (c : Int → Int → Int) (w : World) (hu : RI w u (x0 :: xs)) (hl : xs.length ≤ 1000)
    (hp : ∀ W x y, Below w.heap.size w W → Calls Try.prog g (#[.int .i64 x, .int .i64 y] ++ lb) W fun e w' => e = .returned (.int .i64 (c x y)) ∧ Below W.heap.size W w')
    (eg : ∀ args w, (callFunc g args).run Try.prog w = .ok (.enter g args) w) :
    Calls Try.prog 37 #[u, .func (.func g) #[] lb] w fun e w' => e = .returned (.int .i64 (maxL c xs x0)) ∧ Below w.heap.size w w' := by
  obtain ⟨a, cp, rfl, hr⟩ := hu
  obtain ⟨b, off, rfl, hb, hz⟩ := hr (by simp)
  have HP := Lib.hid hp
  obtain ⟨n, hn⟩ : ∃ n, Hid ((x0 :: xs).length = n) := ⟨_, rfl⟩
  have hn0 : 0 < n := by rw [← hn.out]; simp
  have hn1 : n ≤ 1001 := by rw [← hn.out]; simp; omega
  rw [hn.out] at hz ⊢
  have z0 := hz 0 hn0
  rw [List.getD_cons_zero, Nat.add_zero] at z0
  replace hz := Lib.hid hz
  have hstep := Lib.hid (fun (k : Nat) (h0 : 0 < k) (h : k < n) => show maxL c (xs.take k) x0 = if c ((x0 :: xs).getD k 0) (maxL c (xs.take (k - 1)) x0) > 0 then (x0 :: xs).getD k 0 else maxL c (xs.take (k - 1)) x0 by
    obtain ⟨j, rfl⟩ : ∃ j, k = j + 1 := ⟨k - 1, by omega⟩
    have hj : j < xs.length := by rw [← hn.out] at h; simp at h; omega
    have e : (x0 :: xs).getD (j + 1) 0 = xs[j] := by simp [List.getD, hj]
    rw [e, Nat.add_sub_cancel]
    unfold maxL
    rw [List.take_succ_eq_append_getElem hj, List.foldl_append]
    rfl)
  have hend := Lib.hid (show maxL c (xs.take (n - 1)) x0 = maxL c xs x0 by
    rw [← hn.out, List.length_cons, Nat.add_sub_cancel, List.take_length])
  have i0 : ¬ (n : Int) < 1 := by omega
  clear hp hr
  go_enter Try.func37, Try.ntmps37
  go_wp2_with fail
  go_loopg [5, 6] (n - 1) (fun gm s5 s6 W => ∃ (k : Nat), 0 < k ∧ k ≤ n ∧ gm = n - k ∧ s5 = .int .i64 (maxL c (xs.take (k - 1)) x0) ∧ s6 = .int .i64 k ∧ Hid (Below w.heap.size w W))
  case atStart => exact ⟨1, by omega, by omega, rfl, rfl, rfl, Lib.hid (Below.refl _ _)⟩
  case round =>
    obtain ⟨k, hk0, hk, hgm, rfl, rfl, hB⟩ := hrel
    by_cases hlt : k < n
    · have hszr := hB.out.size
      have zk := (hB.out.cell (p := ⟨b, off + k, none⟩) hb).trans (hz.out k hlt)
      have hs := hstep.out k hk0 hlt
      generalize (x0 :: xs).getD k 0 = x at *
      have hq := Lib.hid (HP.out wr x (maxL c (xs.take (k - 1)) x0) hB.out)
      generalize maxL c (xs.take (k - 1)) x0 = m at *
      have i1 : (0 : Int) ≤ (k : Int) := by omega
      have i2 : (k : Int) < (n : Int) := by omega
      go_wp2_with fail
      refine hq.out.mono ?_
      rintro e w1 ⟨rfl, q⟩
      replace hB := Lib.hid (belT hB.out q)
      have hsz := Lib.hid hszr
      have z2 := (q.cell (p := ⟨b, off + k, none⟩) (Nat.lt_of_lt_of_le hb hsz.out)).trans zk
      clear hq q zk
      by_cases hc : c x m > 0
      · rw [if_pos hc] at hs
        have hc2 : (0 : Int) < c x m := hc
        generalize c x m = cv at *
        go_wp2_with fail
        go_roundg (n - (k + 1))
        case measure => omega
        case rel => exact ⟨k + 1, by omega, by omega, rfl, by rw [Nat.add_sub_cancel, hs], by go_num, hB⟩
      · rw [if_neg hc] at hs
        have hc2 : ¬ (0 : Int) < c x m := hc
        generalize c x m = cv at *
        go_wp2_with fail
        go_roundg (n - (k + 1))
        case measure => omega
        case rel => exact ⟨k + 1, by omega, by omega, rfl, by rw [Nat.add_sub_cancel, hs], by go_num, hB⟩
    · rw [show k - 1 = n - 1 by omega, hend.out]
      have i3 : ¬ (k : Int) < (n : Int) := by omega
      go_wp2_with fail
      go_ret
      exact ⟨rfl, hB.out⟩
/-- Who is chosen of some. -/
def gtL (c : Int → Int → Int) : List Int → Int
  | [] => 0
  | x :: xs => maxL c xs x
set_option maxHeartbeats 4000000 in
theorem greatest_any (u : Value) (xs : List Int) (g : Nat) (lb : Array Value) (c : Int → Int → Int) (w : World) (hu : RI w u xs) (hl : xs.length ≤ 1000)
    (hp : ∀ W x y, Below w.heap.size w W → Calls Try.prog g (#[.int .i64 x, .int .i64 y] ++ lb) W fun e w' => e = .returned (.int .i64 (c x y)) ∧ Below W.heap.size W w')
    (eg : ∀ args w, (callFunc g args).run Try.prog w = .ok (.enter g args) w) :
    Calls Try.prog 25 #[u, .func (.func g) #[] lb] w fun e w' => e = .returned (.tuple #[.int .i64 (gtL c xs), .bool (decide (0 < xs.length))]) ∧ Below w.heap.size w w' := by
  cases xs with
  | nil =>
    obtain ⟨a, cp, rfl, _⟩ := hu
    clear hp
    simp only [List.length_nil, gtL, Nat.lt_irrefl, decide_false]
    go_enter Try.func25, Try.ntmps25
    go_wp2_with fail
    refine bodyPost_ret (v := .tuple #[.int .i64 0, .bool false]) (by simp [results, Try.results25, go_sem, *]) rfl ⟨rfl, Below.refl _ _⟩
  | cons x xs =>
    have hM := Lib.hid (maxFunc_any u x xs g lb c w hu (by simp at hl; omega) hp eg)
    obtain ⟨a, cp, rfl, _⟩ := hu
    have hpos : decide (0 < (x :: xs).length) = true := by simp
    have hlen : (((x :: xs).length : Nat) : Int) = (xs.length : Int) + 1 := by simp
    have h0 : ¬ ((xs.length : Int) + 1 = 0) := by omega
    rw [hpos]
    simp only [gtL]
    clear hp hpos
    generalize maxL c xs x = m at *
    obtain ⟨n, hn⟩ : ∃ n, Hid ((x :: xs).length = n) := ⟨_, rfl⟩
    rw [hn.out] at hM hlen ⊢
    have h1 : ¬ (n : Int) = 0 := by omega
    clear hlen h0
    go_enter Try.func25, Try.ntmps25
    go_wp2_with fail
    refine hM.out.mono ?_
    rintro e w1 ⟨rfl, q⟩
    replace q := Lib.hid q
    clear hM
    go_wp2_with fail
    refine bodyPost_ret (v := .tuple #[.int .i64 m, .bool true]) (by simp [results, Try.results25, go_sem, *]) rfl ⟨rfl, q.out⟩
theorem mkYounger_any (a : Option Addr) (n c : Nat) (w : World) : Calls Try.prog 26 #[.slice a n c] w fun e w' => e = .returned (.func (.func 38) #[] #[.pointer (some ⟨w.heap.size, 0, none⟩)]) ∧ w' = w.alloc (.cells #[.slice a n c] 23) := by
  go_enter Try.func26, Try.ntmps26
  go_wp2_with fail
  go_ret
  exact ⟨rfl, rfl⟩
def chL (A : List Ag) (xs : List Int) : Int := gtL (cmpY A) xs
set_option maxHeartbeats 4000000 in
theorem choose_any (u v : Value) (xs : List Int) (A : List Ag) (w : World) (hu : RI w u xs) (hl : xs.length ≤ 1000) (hv : RL w v 2 A.length (A.flatMap Ag.cells)) (hA : A.length ≤ 1000) :
    Calls Try.prog 15 #[u, v] w fun e w' => e = .returned (.tuple #[.int .i64 (chL A xs), .bool (decide (0 < xs.length))]) ∧ Below w.heap.size w w' := by
  obtain ⟨va, vc, rfl⟩ : ∃ va vc, v = .slice va A.length vc := by
    obtain ⟨_, va, vc, hv', _⟩ := hv
    exact ⟨va, vc, hv'⟩
  have hB := Lib.hid ((Sep.start w).alloc #[.slice va A.length vc] 23)
  have hbel := hB.out.tail.gold
  have hG := Lib.hid (greatest_any u xs 38 #[.pointer (some ⟨w.heap.size, 0, none⟩)] (cmpY A) (w.alloc (.cells #[.slice va A.length vc] 23)) (hu.below hbel) hl (fun W x y h => younger_any w.heap.size (.slice va A.length vc) A x y W ((h.cell (p := ⟨w.heap.size, 0, none⟩) hB.out.b1.1).trans hB.out.b1.2.1) (Nat.lt_of_lt_of_le hB.out.b1.1 h.size) ((hv.below hbel).below h) hA) eg_yng)
  rw [show gtL (cmpY A) xs = chL A xs from rfl] at hG
  clear hv hu hbel
  generalize chL A xs = m at *
  generalize decide (0 < xs.length) = bb at *
  go_enter Try.func15, Try.ntmps15
  go_wp2_with fail
  refine (mkYounger_any _ _ _ _).mono ?_
  rintro e w1 ⟨rfl, rfl⟩
  go_wp2_with fail
  refine hG.out.mono ?_
  rintro e w2 ⟨rfl, q⟩
  replace hB := Lib.hid (hB.out.below q)
  clear q hG
  go_wp2_with fail
  refine bodyPost_ret (v := .tuple #[.int .i64 m, .bool bb]) (by simp [results, Try.results15, go_sem, *]) rfl ⟨rfl, hB.out.tail.gold⟩
end Go.Proofs.Ythbamhfnemdebaa
