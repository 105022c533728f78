/-
  Timers: Push, Pop; heap.Push, heap.Pop, heap.Remove. No condition beside timers that can be read.
-/
import Derived.Test.YtcbjgibcgalppaaTkD
import Derived.Test.YtcbjgibcgalppaaHx
namespace Go.Proofs.Ytcbjgibcgalppaa
open Go.RowKit Go.Shelf
theorem vec_some {w : World} {a : Option Addr} {n c : Nat} {xs : List Tm} {rs : List Res} (h : Sep w (tVec (.slice a n c) n xs :: rs)) (h0 : 0 < n) : ∃ g, a = some ⟨g, 0, none⟩ := by
  rcases h.gvec.2 with ⟨_, h1⟩ | ⟨g, cap, cur, hv, _⟩
  · omega
  · injection hv with e1 _ e3
    exact ⟨g, e1⟩
theorem assert_t (x : Tm) (w : World) : (Instr.typeAssert (.iface 61 (tV x)) 20 61 true).run Try.prog w = .ok (.tuple #[tV x, .bool true]) w := by kernel_rfl
theorem info_t : (Try.prog.info? 61).map (fun i => (i.zero, i.size, i.bytes)) = some (some (.agg #[.int .i64 0, .int .i64 0, .int .i64 0]), 3, 24) := by kernel_rfl
theorem srcA_cells (w : World) (cs : Array Value) (t : TypeId) (c sz : Nat) (hz : cs.size = sz) : SrcA (w.alloc (.cells cs t)) sz (.slice (some ⟨w.heap.size, 0, none⟩) 1 c) 1 cs.toList := by
  refine .inr ⟨_, _, rfl, by simp [hz], fun j u hu => ?_⟩
  have h := ((Sep.start w).alloc cs t).gblk.cell j
  rw [Addr.add_lit, Nat.zero_add]
  rw [h, ← hu]
  simp
theorem flat_app (xs : List Tm) (x : Tm) : xs.flatMap tC ++ [.int .i64 x.1, .int .i64 x.2.1, .int .i64 x.2.2] = (xs ++ [x]).flatMap tC := by simp [tC]
set_option maxRecDepth 100000 in
set_option maxHeartbeats 1000000 in
theorem tpush_any (p : Nat) (fa : Option Addr) (n c : Nat) (nw : Int) (xs : List Tm) (x : Tm) (w : World) (rs : List Res) (hS : Sep w (cBlk p nw (.slice fa n c) :: tVec (.slice fa n c) n xs :: rs)) (hn : n ≤ 1000) :
    Calls Try.prog 90 #[.pointer (some ⟨p, 1, none⟩), .iface 61 (tV x)] w fun e w' => e = .returned (.tuple #[]) ∧ ∃ a' c', Sep w' (cBlk p nw (.slice a' (n + 1) c') :: tVec (.slice a' (n + 1) c') (n + 1) (xs ++ [x]) :: rs) := by
  have ta := fun W => assert_t x W
  have hap := Lib.hid (flat_app xs x)
  obtain ⟨x0, x1, x2⟩ := x
  simp only [tV] at ta hap ⊢
  obtain ⟨_, c0, c1, f0, f1⟩ := hS.b2
  obtain ⟨i0, hi, hz0, hz1, hz2⟩ := info_parts info_t
  have hB := Lib.hid (show Sep _ (cBlk p nw (.slice fa n c) :: tVec (.slice fa n c) n xs :: blk w.heap.size 61 #[.int .i64 x0, .int .i64 x1, .int .i64 x2] :: rs) from (hS.alloc #[.int .i64 x0, .int .i64 x1, .int .i64 x2] 61).to2.to2)
  have h1c : Hid (∀ u ∈ ([.int .i64 x0, .int .i64 x1, .int .i64 x2] : List Value), u.oneCell' = true) := Lib.hid (by simp [Value.oneCell'])
  replace hn := Lib.hid hn
  clear hS
  go_enter Try.func90, Try.ntmps90
  go_wp2_with fail
  clear c0 c1 f0 f1
  replace hB := Lib.hid hB.out.drew
  have hS := Lib.hid (show (fun W : World => ∃ u m cs, Sep W (cBlk p nw (.slice fa n c) :: vec 61 3 u m cs :: blk w.heap.size 61 #[.int .i64 x0, .int .i64 x1, .int .i64 x2] :: rs)) _ from ⟨_, _, _, hB.out⟩)
  refine hx_begin (fun W : World => ∃ u m cs, Sep W (cBlk p nw (.slice fa n c) :: vec 61 3 u m cs :: blk w.heap.size 61 #[.int .i64 x0, .int .i64 x1, .int .i64 x2] :: rs)) 8 [(0, true), (1, true), (2, true), (3, true), (4, true), (5, false), (6, false), (7, true), (8, false)] [(7, 8), (6, 8), (0, 8), (1, 8), (2, 8), (3, 8), (4, 8), (5, 8)] (by kernel_rfl) (by kernel_rfl) (by kernel_rfl) (by kernel_rfl) rfl (by kernel_rfl) (by kernel_rfl) (fun _ _ _ _ _ h => h) hS.out ?_
  change HX _ _ _ _ _ _ _ (World.drew _)
  generalize World.drew _ = wd at *
  refine hx_take ?v1 rfl (by kernel_rfl) ?y1 ?z1
  case y1 => intro W hW; skip; replace hW := Lib.hid hW; go_simp; try rfl
  case z1 =>
  simp only [Act.put, List.setIfInBounds_toArray, List.set_cons_succ, List.set_cons_zero, List.getElem_toArray, List.getElem_cons_zero]
  refine hx_take ?v2 rfl (by kernel_rfl) ?y2 ?z2
  case y2 => intro W hW; skip; replace hW := Lib.hid hW; go_simp; try rfl
  case z2 =>
  simp only [Act.put, List.setIfInBounds_toArray, List.set_cons_succ, List.set_cons_zero, List.getElem_toArray, List.getElem_cons_zero, List.getElem_cons_succ]
  refine hx_take ?v3 rfl (by kernel_rfl) ?y3 ?z3
  case y3 => intro W hW; skip; replace hW := Lib.hid hW; go_simp; try rfl
  case z3 =>
  simp only [Act.put, List.setIfInBounds_toArray, List.set_cons_succ, List.set_cons_zero, List.getElem_toArray, List.getElem_cons_zero, List.getElem_cons_succ]
  refine hx_take ?v4 rfl (by kernel_rfl) ?y4 ?z4
  case y4 => intro W hW; obtain ⟨_, _, _, hW⟩ := hW; obtain ⟨_, c0, c1, _⟩ := hW.b2; obtain ⟨_, d0, d1, d2, _⟩ := hW.to2.b3; replace hW := Lib.hid hW; go_simp; try rfl
  case z4 =>
  simp only [Act.put, List.setIfInBounds_toArray, List.set_cons_succ, List.set_cons_zero, List.getElem_toArray, List.getElem_cons_zero, List.getElem_cons_succ]
  refine hx_take ?v5 rfl (by kernel_rfl) ?y5 ?z5
  case y5 => intro W hW; obtain ⟨_, _, _, hW⟩ := hW; obtain ⟨_, c0, c1, _⟩ := hW.b2; obtain ⟨_, d0, d1, d2, _⟩ := hW.to2.b3; replace hW := Lib.hid hW; go_simp; try rfl
  case z5 =>
  simp only [Act.put, List.setIfInBounds_toArray, List.set_cons_succ, List.set_cons_zero, List.getElem_toArray, List.getElem_cons_zero, List.getElem_cons_succ]
  refine hx_one (by decide) rfl (by kernel_rfl) (fun K hK => ?_)
  go_simp
  replace hB := Lib.hid (hB.out.allocG (.cells #[.int .i64 x0, .int .i64 x1, .int .i64 x2] 61))
  have hsrc := Lib.hid (srcA_cells wd #[.int .i64 x0, .int .i64 x1, .int .i64 x2] 61 1 3 rfl)
  refine hK.out _ _ ⟨_, _, _, hB.out⟩ ?_
  clear hK K
  try simp only [Act.put, List.setIfInBounds_toArray, List.set_cons_succ, List.set_cons_zero, List.getElem_toArray, List.getElem_cons_zero, List.getElem_cons_succ]
  refine hx_one (by decide) rfl (by kernel_rfl) (fun K hK => ?_)
  refine wp_append_sep hB.out.to1 (.tmp 15) (.tmp 17) 56 (by rfl) i0 _ 24 Try.underlying56 hi hz0 hz1 hz2 rfl (by decide) (by rfl) 1 [.int .i64 x0, .int .i64 x1, .int .i64 x2] (by exact hsrc.out) h1c.out ?c901 ?d901 ?_
  case c901 => have := hn.out; simp only [maxLen]; omega
  case d901 => have := hn.out; omega
  intro na nc w1 q
  replace hB := Lib.hid (show Sep _ _ from q.to1)
  clear q hsrc
  refine hK.out _ _ ⟨_, _, _, hB.out⟩ ?_
  clear hK K
  try simp only [Act.put, List.setIfInBounds_toArray, List.set_cons_succ, List.set_cons_zero, List.getElem_toArray, List.getElem_cons_zero, List.getElem_cons_succ]
  refine hx_take ?v6 rfl (by kernel_rfl) ?y6 ?z6
  case y6 => intro W hW; skip; replace hW := Lib.hid hW; go_simp; try rfl
  case z6 =>
  simp only [Act.put, List.setIfInBounds_toArray, List.set_cons_succ, List.set_cons_zero, List.getElem_toArray, List.getElem_cons_zero, List.getElem_cons_succ]
  refine hx_last rfl (by kernel_rfl) (fun K hK => ?_)
  obtain ⟨_, y0, y1, f0, f1⟩ := hB.out.b2
  go_simp
  replace hB := Lib.hid (hB.out.set 1 (.slice na (n + 1) nc))
  refine hK.out _ _ ?_
  clear hK K
  try simp only [Act.put, List.setIfInBounds_toArray, List.set_cons_succ, List.set_cons_zero, List.getElem_toArray, List.getElem_cons_zero, List.getElem_cons_succ]
  refine hx_done ?_
  clear hS
  go_wp2_with fail
  refine bodyPost_end (results_none rfl _ _ _) rfl ⟨rfl, na, nc, ?_⟩
  have h9 := hB.out.to2.tail
  have h10 := hap.out
  unfold tVec
  rw [← h10]
  exact h9
set_option maxHeartbeats 1000000 in
theorem tpop_any (p g n c : Nat) (nw : Int) (xs : List Tm) (w : World) (rs : List Res) (hS : Sep w (cBlk p nw (.slice (some ⟨g, 0, none⟩) (n + 1) c) :: tVec (.slice (some ⟨g, 0, none⟩) (n + 1) c) (n + 1) xs :: rs)) (hl : xs.length = n + 1) (hn : n ≤ 1000) :
    Calls Try.prog 89 #[.pointer (some ⟨p, 1, none⟩)] w fun e w' => e = .returned (.iface 61 (tV (gt_ xs n))) ∧ Sep w' (cBlk p nw (.slice (some ⟨g, 0, none⟩) n c) :: tVec (.slice (some ⟨g, 0, none⟩) n c) n (xs.take n) :: rs) := by
  obtain ⟨⟨k0, k1, k2⟩, _, _⟩ := hS.to1.tAt n (by omega)
  have hc : n + 1 ≤ c := by obtain ⟨_, _, h, _⟩ := hS.to1.vec_blk; exact h
  obtain ⟨_, c0, c1, f0, f1⟩ := hS.b2
  have i1 : (0 : Int) ≤ (n : Int) := by omega
  have i2 : (n : Int) < ((n + 1 : Nat) : Int) := by omega
  have i3 : ((n + 1 : Nat) : Int) - 1 = (n : Int) := by omega
  have i4 : (n : Int) ≤ (c : Int) := by omega
  have hft := Lib.hid (flat_take tC 3 tC_len xs n (by omega))
  generalize gt_ xs n = y at *
  obtain ⟨y0, y1, y2⟩ := y
  simp only at k0 k1 k2
  have hlt := hS.gblk.lt
  replace hS := Lib.hid hS
  replace hl := Lib.hid hl
  go_enter Try.func89, Try.ntmps89
  go_wp2_with fail
  go_ret
  refine ⟨rfl, ?_⟩
  have h1 := ((hS.out.set 1 (.slice (some ⟨g, 0, none⟩) n c)).to1.vec_shrink (k := n) (by omega)).to1.allocG (.cells #[.int .i64 y0, .int .i64 y1, .int .i64 y2] 61)
  have h2 := hft.out
  rw [h2] at h1
  exact h1
set_option maxHeartbeats 1000000 in
theorem hpush_any (p : Nat) (fa : Option Addr) (n c : Nat) (nw : Int) (xs : List Tm) (x : Tm) (w : World) (rs : List Res) (hS : Sep w (cBlk p nw (.slice fa n c) :: tVec (.slice fa n c) n xs :: rs)) (hl : xs.length = n) (hn : n ≤ 999) :
    Calls Try.prog 27 #[hI p, .iface 61 (tV x)] w fun e w' => e = .returned (.tuple #[]) ∧ ∃ g' c', Sep w' (cBlk p nw (.slice (some ⟨g', 0, none⟩) (n + 1) c') :: tVec (.slice (some ⟨g', 0, none⟩) (n + 1) c') (n + 1) (pushL ltT xs x) :: rs) := by
  have HP := Lib.hid (tpush_any p fa n c nw xs x w rs hS (by omega))
  have mp := mPush (.pointer (some ⟨p, 1, none⟩)) w
  go_enter Try.func27, Try.ntmps27
  go_wp2_with fail
  refine HP.out.mono ?_
  rintro e w1 ⟨rfl, a', c', hS1⟩
  obtain ⟨g', rfl⟩ := vec_some hS1.to1 (by omega)
  have ml := mLen p (some ⟨g', 0, none⟩) (n + 1) c' w1 hS1.b2.2.2.1
  have HN := Lib.hid (fun W => len_any (some ⟨g', 0, none⟩) (n + 1) c' W)
  have HU := Lib.hid (up_any p g' (n + 1) c' n nw (xs ++ [x]) w1 rs hS1 (by simp [hl]) (by omega) (by omega))
  have hpl : upL ltT (xs ++ [x]) n = pushL ltT xs x := by unfold pushL; rw [hl]
  rw [hpl] at HU
  clear hS1 HP mp hS hpl
  have i3 : ((n + 1 : Nat) : Int) - 1 = (n : Int) := by omega
  go_wp2_with fail
  refine (HN.out _).mono ?_
  rintro e w2 ⟨rfl, rfl⟩
  go_wp2_with fail
  refine HU.out.mono ?_
  rintro e w3 ⟨rfl, hS3⟩
  replace hS3 := Lib.hid hS3
  go_wp2_with fail
  refine bodyPost_end (results_none rfl _ _ _) rfl ⟨rfl, g', c', hS3.out⟩
set_option maxHeartbeats 1000000 in
theorem hpop_any (p g n c : Nat) (nw : Int) (xs : List Tm) (w : World) (rs : List Res) (hS : Sep w (cBlk p nw (.slice (some ⟨g, 0, none⟩) (n + 1) c) :: tVec (.slice (some ⟨g, 0, none⟩) (n + 1) c) (n + 1) xs :: rs)) (hl : xs.length = n + 1) (hn : n ≤ 999) (hh : HeapN ltT xs xs.length) :
    Calls Try.prog 38 #[hI p] w fun e w' => e = .returned (.iface 61 (tV (gt_ xs 0))) ∧ Sep w' (cBlk p nw (.slice (some ⟨g, 0, none⟩) n c) :: tVec (.slice (some ⟨g, 0, none⟩) n c) n (popL ltT xs) :: rs) := by
  obtain ⟨hp1, hp3, hp4, _⟩ := pop_all ordT xs n hl hh
  have ml := mLen p (some ⟨g, 0, none⟩) (n + 1) c w hS.b2.2.2.1
  have ms := mSwap p (some ⟨g, 0, none⟩) (n + 1) c w hS.b2.2.2.1
  have HN := Lib.hid (fun W => len_any (some ⟨g, 0, none⟩) (n + 1) c W)
  have HS := Lib.hid (swap_any 0 n hS.to1 hl (by omega) (by omega))
  have i3 : ((n + 1 : Nat) : Int) - 1 = (n : Int) := by omega
  generalize gt_ xs 0 = y at *
  replace hp1 := Lib.hid hp1
  replace hp3 := Lib.hid hp3
  replace hp4 := Lib.hid hp4
  clear hh hS
  go_enter Try.func38, Try.ntmps38
  go_wp2_with fail
  refine (HN.out _).mono ?_
  rintro e w2 ⟨rfl, rfl⟩
  go_wp2_with fail
  refine HS.out.mono ?_
  rintro e w3 ⟨rfl, hS3⟩
  have HD := Lib.hid (down_any p g (n + 1) c 0 n nw (swapL xs 0 n) w3 rs hS3.to1 (by rw [swapL_len]; exact hl) (by omega) (by omega) (by omega))
  clear HS ms ml hS3 HN
  go_wp2_with fail
  refine HD.out.mono ?_
  rintro e w4 ⟨rfl, hS4⟩
  have HP := Lib.hid (tpop_any p g n c nw _ w4 rs hS4 hp3.out (by omega))
  rw [hp1.out, ← hp4.out] at HP
  have mp := mPop (.pointer (some ⟨p, 1, none⟩)) w4
  clear HD hS4 hp1 hp3 hp4
  go_wp2_with fail
  refine HP.out.mono ?_
  rintro e w5 ⟨rfl, hS5⟩
  replace hS5 := Lib.hid hS5
  go_wp2_with fail
  go_ret
  exact ⟨rfl, hS5.out⟩
set_option maxHeartbeats 1000000 in
theorem hrem_any (p g n c i : Nat) (nw : Int) (xs : List Tm) (w : World) (rs : List Res) (hS : Sep w (cBlk p nw (.slice (some ⟨g, 0, none⟩) (n + 1) c) :: tVec (.slice (some ⟨g, 0, none⟩) (n + 1) c) (n + 1) xs :: rs)) (hl : xs.length = n + 1) (hi : i < n + 1) (hn : n ≤ 999) (hh : HeapN ltT xs xs.length) :
    Calls Try.prog 28 #[hI p, .int .i64 i] w fun e w' => e = .returned (.iface 61 (tV (gt_ xs i))) ∧ Sep w' (cBlk p nw (.slice (some ⟨g, 0, none⟩) n c) :: tVec (.slice (some ⟨g, 0, none⟩) n c) n (remL ltT xs i) :: rs) := by
  obtain ⟨_, _, hr1, hr2⟩ := rem_all ordT xs i n hl hi hh
  have ml := mLen p (some ⟨g, 0, none⟩) (n + 1) c w hS.b2.2.2.1
  have HN := Lib.hid (fun W => len_any (some ⟨g, 0, none⟩) (n + 1) c W)
  have i3 : ((n + 1 : Nat) : Int) - 1 = (n : Int) := by omega
  by_cases hin : i = n
  · subst hin
    have e0 := hr2 rfl
    have HP := Lib.hid (tpop_any p g i c nw xs w rs hS hl (by omega))
    rw [← e0] at HP
    have mp := mPop (.pointer (some ⟨p, 1, none⟩)) w
    generalize gt_ xs i = y at *
    clear hr1 hr2 hh hS e0
    go_enter Try.func28, Try.ntmps28
    go_wp2_with fail
    refine (HN.out _).mono ?_
    rintro e w2 ⟨rfl, rfl⟩
    go_wp2_with fail
    refine HP.out.mono ?_
    rintro e w5 ⟨rfl, hS5⟩
    replace hS5 := Lib.hid hS5
    go_wp2_with fail
    go_ret
    exact ⟨rfl, hS5.out⟩
  · obtain ⟨e1, e2, e3⟩ := hr1 hin
    have hlen := swapL_len xs i n
    have ms := mSwap p (some ⟨g, 0, none⟩) (n + 1) c w hS.b2.2.2.1
    have HS := Lib.hid (swap_any i n hS.to1 hl hi (by omega))
    have hq : ((n : Int) != (i : Int)) = true := by simp; omega
    unfold fixL at e1 e2 e3
    generalize gt_ xs i = y at *
    replace e1 := Lib.hid e1
    replace e2 := Lib.hid e2
    replace e3 := Lib.hid e3
    replace hlen := Lib.hid hlen
    clear hr1 hr2 hh hS
    go_enter Try.func28, Try.ntmps28
    go_wp2_with fail
    refine (HN.out _).mono ?_
    rintro e w2 ⟨rfl, rfl⟩
    go_wp2_with fail
    refine HS.out.mono ?_
    rintro e w3 ⟨rfl, hS3⟩
    have HD := Lib.hid (down_any p g (n + 1) c i n nw (swapL xs i n) w3 rs hS3.to1 (by rw [hlen.out]; exact hl) (by omega) (by omega) (by omega))
    clear HS ms ml hS3 HN
    cases hmv : movesL ltT (swapL xs i n) i n with
    | true =>
      rw [hmv] at HD e1 e2 e3
      rw [if_pos rfl] at e1 e2 e3
      clear hmv
      go_wp2_with fail
      refine HD.out.mono ?_
      rintro e w4 ⟨rfl, hS4⟩
      have HP := Lib.hid (tpop_any p g n c nw _ w4 rs hS4 e2.out (by omega))
      rw [e1.out, ← e3.out] at HP
      have mp := mPop (.pointer (some ⟨p, 1, none⟩)) w4
      clear HD hS4 e1 e2 e3
      go_wp2_with fail
      refine HP.out.mono ?_
      rintro e w5 ⟨rfl, hS5⟩
      replace hS5 := Lib.hid hS5
      go_wp2_with fail
      go_ret
      exact ⟨rfl, hS5.out⟩
    | false =>
      have hst := down_still ltT (swapL xs i n) i n hmv
      rw [hmv] at HD e1 e2 e3
      rw [hst] at HD
      rw [if_neg (by simp)] at e1 e2 e3
      clear hmv hst
      go_wp2_with fail
      refine HD.out.mono ?_
      rintro e w4 ⟨rfl, hS4⟩
      have HU := Lib.hid (up_any p g (n + 1) c i nw (swapL xs i n) w4 rs hS4 (by rw [hlen.out]; exact hl) hi (by omega))
      clear HD hS4
      go_wp2_with fail
      refine HU.out.mono ?_
      rintro e w4 ⟨rfl, hS4⟩
      have HP := Lib.hid (tpop_any p g n c nw _ w4 rs hS4 e2.out (by omega))
      rw [e1.out, ← e3.out] at HP
      have mp := mPop (.pointer (some ⟨p, 1, none⟩)) w4
      clear HU hS4 e1 e2 e3
      go_wp2_with fail
      refine HP.out.mono ?_
      rintro e w5 ⟨rfl, hS5⟩
      replace hS5 := Lib.hid hS5
      go_wp2_with fail
      go_ret
      exact ⟨rfl, hS5.out⟩
end Go.Proofs.Ytcbjgibcgalppaa
