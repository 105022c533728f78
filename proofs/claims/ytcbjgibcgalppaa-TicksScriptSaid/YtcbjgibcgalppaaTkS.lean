/-
  Timers: Swap. No condition beside timers that can be read.
-/
import Derived.Test.YtcbjgibcgalppaaTkB
namespace Go.Proofs.Ytcbjgibcgalppaa
open Go.RowKit Go.Shelf
theorem Sep.tSet {w : World} {g n c : Nat} {xs : List Tm} {rs : List Res} (h : Sep w (tVec (.slice (some ⟨g, 0, none⟩) n c) n xs :: rs)) (k : Nat) (hk : k < xs.length) (x : Tm) : Sep (((w.setCell ⟨g, k * 3, none⟩ (.int .i64 x.1)).setCell ⟨g, k * 3 + 1, none⟩ (.int .i64 x.2.1)).setCell ⟨g, k * 3 + 2, none⟩ (.int .i64 x.2.2)) (tVec (.slice (some ⟨g, 0, none⟩) n c) n (xs.set k x) :: rs) := by
  have h2 := Sep.vec_setN (tC x) (k * 3) w _ h (by rw [tC_len, flat_len _ _ tC_len]; omega)
  rw [flat_put tC_len xs k x hk] at h2
  exact h2
set_option maxHeartbeats 4000000 in
theorem swap_any {g n c : Nat} {xs : List Tm} {w : World} {rs : List Res} (i j : Nat) (hS : Sep w (tVec (.slice (some ⟨g, 0, none⟩) n c) n xs :: rs)) (hl : xs.length = n) (hi : i < n) (hj : j < n) :
    Calls Try.prog 88 #[.slice (some ⟨g, 0, none⟩) n c, .int .i64 i, .int .i64 j] w fun e w' => e = .returned (.tuple #[]) ∧ Sep w' (tVec (.slice (some ⟨g, 0, none⟩) n c) n (swapL xs i j) :: rs) := by
  have i1 : (0 : Int) ≤ (i : Int) := by omega
  have i2 : (i : Int) < (n : Int) := by omega
  have j1 : (0 : Int) ≤ (j : Int) := by omega
  have j2 : (j : Int) < (n : Int) := by omega
  obtain ⟨⟨h0, h1, h2⟩, hf, hg⟩ := hS.tAt i (by omega)
  obtain ⟨⟨k0, k1, k2⟩, _, _⟩ := hS.tAt j (by omega)
  have hS1 := hS.tSet i (by omega) (gt_ xs j)
  have e1 : gt_ (xs.set i (gt_ xs j)) j = gt_ xs j := by
    by_cases h : j = i
    · subst h; simp [gt_, List.getD_eq_getElem?_getD, show j < xs.length by omega]
    · simp [gt_, List.getD_eq_getElem?_getD, List.getElem?_set_ne (fun e => h e.symm)]
  obtain ⟨⟨m0, m1, m2⟩, hf1, _⟩ := hS1.tAt j (by rw [List.length_set]; omega)
  have hS2 := (hS1.tSet j (by rw [List.length_set]; omega) (gt_ xs i)).drew
  rw [show (xs.set i (gt_ xs j)).set j (gt_ xs i) = swapL xs i j from rfl] at hS2
  have f0 := hf (i * 3)
  have f1 := hf (i * 3 + 1)
  have f2 := hf (i * 3 + 2)
  have f3 := hf (j * 3)
  have f4 := hf (j * 3 + 1)
  have f5 := hf (j * 3 + 2)
  rw [e1] at m0 m1 m2
  replace hS2 := Lib.hid hS2
  clear hS hS1 hf hf1 e1
  generalize gt_ xs i = x at *
  generalize gt_ xs j = y at *
  generalize swapL xs i j = ys at *
  obtain ⟨x0, x1, x2⟩ := x
  obtain ⟨y0, y1, y2⟩ := y
  simp only at h0 h1 h2 k0 k1 k2 m0 m1 m2 hS2
  go_enter Try.func88, Try.ntmps88
  go_wp2_with fail
  go_region
  refine bodyPost_end (results_none rfl _ _ _) rfl ⟨rfl, hS2.out⟩
theorem len_any (a : Option Addr) (n c : Nat) (w : World) : Calls Try.prog 86 #[.slice a n c] w fun e w' => e = .returned (.int .i64 n) ∧ w' = w := by
  go_enter Try.func86, Try.ntmps86
  go_wp2
  go_ret
  exact ⟨rfl, rfl⟩
abbrev cBlk (p : Nat) (now : Int) (fv : Value) : Res := blk p 58 #[.int .i64 now, fv]
abbrev hI (p : Nat) : Value := .iface 60 (.pointer (some ⟨p, 1, none⟩))
theorem mAt (p : Nat) (f : FuncId) (a : Option Addr) (n c : Nat) (w : World) (h : w.cell? ⟨p, 1, none⟩ = some (.slice a n c)) : ((loadVar 56 ⟨p, 1, none⟩ >>= fun x => pure (f, x) : Sem (FuncId × Value))).run Try.prog w = .ok (f, .slice a n c) w := by
  have hc : Try.prog.cellsOf 56 = 1 := by kernel_rfl
  have hu := Try.underlying56
  go_simp
theorem mLess (p : Nat) (a : Option Addr) (n c : Nat) (w : World) (h : w.cell? ⟨p, 1, none⟩ = some (.slice a n c)) : (method 234 60 (.pointer (some ⟨p, 1, none⟩)) "Less").run Try.prog w = .ok (87, .slice a n c) w :=
  (show _ = ((loadVar 56 ⟨p, 1, none⟩ >>= fun x => pure (87, x) : Sem (FuncId × Value))).run Try.prog w by kernel_rfl).trans (mAt p _ a n c w h)
theorem mSwap (p : Nat) (a : Option Addr) (n c : Nat) (w : World) (h : w.cell? ⟨p, 1, none⟩ = some (.slice a n c)) : (method 234 60 (.pointer (some ⟨p, 1, none⟩)) "Swap").run Try.prog w = .ok (88, .slice a n c) w :=
  (show _ = ((loadVar 56 ⟨p, 1, none⟩ >>= fun x => pure (88, x) : Sem (FuncId × Value))).run Try.prog w by kernel_rfl).trans (mAt p _ a n c w h)
theorem mLen (p : Nat) (a : Option Addr) (n c : Nat) (w : World) (h : w.cell? ⟨p, 1, none⟩ = some (.slice a n c)) : (method 234 60 (.pointer (some ⟨p, 1, none⟩)) "Len").run Try.prog w = .ok (86, .slice a n c) w :=
  (show _ = ((loadVar 56 ⟨p, 1, none⟩ >>= fun x => pure (86, x) : Sem (FuncId × Value))).run Try.prog w by kernel_rfl).trans (mAt p _ a n c w h)
theorem mPush (v : Value) (w : World) : (method 234 60 v "Push").run Try.prog w = .ok (90, v) w := by kernel_rfl
theorem mPop (v : Value) (w : World) : (method 234 60 v "Pop").run Try.prog w = .ok (89, v) w := by kernel_rfl
set_option maxHeartbeats 1000000 in
theorem up_any (p g n c j : Nat) (nw : Int) (xs : List Tm) (w : World) (rs : List Res) (hS : Sep w (cBlk p nw (.slice (some ⟨g, 0, none⟩) n c) :: tVec (.slice (some ⟨g, 0, none⟩) n c) n xs :: rs)) (hl : xs.length = n) (hj : j < n) (hn : n ≤ 1000) :
    Calls Try.prog 35 #[hI p, .int .i64 j] w fun e w' => e = .returned (.tuple #[]) ∧ Sep w' (cBlk p nw (.slice (some ⟨g, 0, none⟩) n c) :: tVec (.slice (some ⟨g, 0, none⟩) n c) n (upL ltT xs j) :: rs) := by
  replace hS := Lib.hid hS
  replace hl := Lib.hid hl
  go_enter Try.func35, Try.ntmps35
  go_wp2_with fail
  go_loopw [1] (fun s wr => ∃ (k : Nat) (cur : List Tm), k < n ∧ s = .int .i64 k ∧ Hid (upL ltT xs j = upL ltT cur k) ∧ Hid (cur.length = n) ∧ Hid (Sep wr (cBlk p nw (.slice (some ⟨g, 0, none⟩) n c) :: tVec (.slice (some ⟨g, 0, none⟩) n c) n cur :: rs))) (fun s _ => (intOf s).toNat)
  case atStart => exact ⟨j, xs, hj, rfl, rfl, hl, hS⟩
  case round =>
    clear hS hl
    obtain ⟨k, cur, hk, rfl, hE, hl, hS⟩ := hrel
    by_cases h0 : k = 0
    · subst h0
      go_wp2_with fail
      refine bodyPost_end (results_none rfl _ _ _) rfl ⟨rfl, ?_⟩
      have e : upL ltT cur 0 = cur := by rw [upL, if_pos rfl]
      rw [hE.out, e]
      exact hS.out
    · have hq : ((k : Int) - 1).tdiv 2 = (((k - 1) / 2 : Nat) : Int) := by
        rw [Int.tdiv_eq_ediv_of_nonneg (by omega)]
        omega
      have hqk : (k - 1) / 2 < k := by omega
      have hU := Lib.hid (show upL ltT cur k = if ltT (gt_ cur k) (gt_ cur ((k - 1) / 2)) = true then upL ltT (swapL cur ((k - 1) / 2) k) ((k - 1) / 2) else cur by rw [upL, if_neg h0])
      obtain ⟨q, hqe⟩ : ∃ q, (k - 1) / 2 = q := ⟨_, rfl⟩
      rw [hqe] at hq hqk hU
      have h1 : ¬ (q : Int) = (k : Int) := by omega
      have h1' : ((q : Int) == (k : Int)) = false := beq_eq_false_iff_ne.2 h1
      obtain ⟨ck, _, hg⟩ := hS.out.to1.tAt k (by rw [hl.out]; exact hk)
      obtain ⟨cq, _, _⟩ := hS.out.to1.tAt q (by rw [hl.out]; omega)
      have HL := Lib.hid (less_any g n c k q _ _ wr hk (by omega) hg ck cq)
      have ml := mLess p (some ⟨g, 0, none⟩) n c wr hS.out.b2.2.2.1
      clear ck cq hqe hg
      cases hlt : ltT (gt_ cur k) (gt_ cur q) with
      | false =>
        rw [hlt] at HL
        go_wp2_with fail
        refine HL.out.mono ?_
        rintro e w1 ⟨rfl, m⟩
        replace m := Lib.hid m
        go_wp2_with fail
        refine bodyPost_end (results_none rfl _ _ _) rfl ⟨rfl, ?_⟩
        rw [hE.out, hU.out, if_neg (by rw [hlt]; simp)]
        exact hS.out.below m.out
      | true =>
        rw [hlt] at HL
        go_wp2_with fail
        refine HL.out.mono ?_
        rintro e w1 ⟨rfl, m⟩
        replace hS := Lib.hid (hS.out.below m)
        have ms := mSwap p (some ⟨g, 0, none⟩) n c _ hS.out.b2.2.2.1
        clear ml m
        have HS := Lib.hid (swap_any q k hS.out.to1 hl.out (by omega) hk)
        go_wp2_with fail
        refine HS.out.mono ?_
        rintro e w2 ⟨rfl, hS2⟩
        have hS3 := Lib.hid hS2.to1
        clear hS2 HS ms hS
        have hE2 := Lib.hid (show upL ltT xs j = upL ltT (swapL cur q k) q by rw [hE.out, hU.out, if_pos hlt])
        clear hE hU hlt
        go_wp2_with fail
        go_roundw
        case rel => exact ⟨q, swapL cur q k, by omega, by go_num, hE2, Lib.hid (by rw [swapL_len]; exact hl.out), hS3⟩
        case measure => simp [intOf]; omega
end Go.Proofs.Ytcbjgibcgalppaa
