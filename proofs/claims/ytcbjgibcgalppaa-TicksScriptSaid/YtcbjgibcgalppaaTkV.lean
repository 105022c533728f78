/-
  A clock's timers in order: slices.Values, AppendSeq, Collect, SortFunc, SortedFunc at timers. No condition beside timers that can be read.
-/
import Derived.Test.YtcbjgibcgalppaaTkH
import Derived.Test.YtcbjgibcgalppaaTSoL
import Derived.Test.YtcbjgibcgalppaaSrtG
namespace Go.Proofs.Ytcbjgibcgalppaa
open Go.RowKit Go.Shelf Go.Sort
attribute [local go_sem] Oper.semAt_some
abbrev valfn : Nat := 45
set_option maxRecDepth 100000 in
set_option maxHeartbeats 4000000 in
theorem values1_in (N : Nat) (hN : 1 ≤ N) (l Bv n c : Nat) (a : Option Addr) (xs : List Tm) (R : Nat → List Res) (hl : xs.length = n) (hn : n ≤ 1000)
    (hY : ∀ (k : Nat) (x : Tm) (W : World), k < n → xs[k]? = some x → Sep W (blk Bv 56 #[.slice a n c] :: tVec (.slice a n c) n xs :: R k) →
      YieldAt Fence.wide (N - 1) Try.prog l #[tV x] W fun e W' => e = .returned (.bool true) ∧ Sep W' (blk Bv 56 #[.slice a n c] :: tVec (.slice a n c) n xs :: R (k + 1)))
    (W : World) (h0 : Sep W (blk Bv 56 #[.slice a n c] :: tVec (.slice a n c) n xs :: R 0)) :
    CallsIn Fence.wide N Try.prog valfn #[.func (.yield l) #[] #[], .pointer (some ⟨Bv, 0, none⟩)] W fun e W' => (∃ v, e = .returned v) ∧ Sep W' (blk Bv 56 #[.slice a n c] :: tVec (.slice a n c) n xs :: R n) := by
  obtain ⟨_, e0, _⟩ := h0.b1
  replace h0 := Lib.hid h0
  replace hl := Lib.hid hl
  refine callsIn_of_wp Try.func45 rfl trivial ?_ rfl
  simp only [Try.ntmps45, List.size_toArray, List.length_cons, List.length_nil, Nat.reduceAdd, Nat.reduceSub, Array.replicate_succ, Array.replicate_zero, List.push_toArray, List.append_toArray, List.nil_append, List.cons_append]
  gi_wp2
  clear e0
  gi_loopw [7] (fun i wr => ∃ k : Nat, k ≤ n ∧ i = .int .i64 k ∧ Hid (Sep wr (blk Bv 56 #[.slice a n c] :: tVec (.slice a n c) n xs :: R k))) (fun i _ => n - (intOf i).toNat)
  case atStart => exact ⟨0, Nat.zero_le _, rfl, h0⟩
  case round =>
    clear h0
    obtain ⟨k, hk, rfl, hS⟩ := hrel
    by_cases hlt : k < n
    · obtain ⟨g, rfl⟩ := vec_some hS.out.to1 (by omega)
      have hkl : k < xs.length := by rw [hl.out]; exact hlt
      obtain ⟨⟨z0, z1, z2⟩, _, _⟩ := hS.out.to1.tAt k hkl
      have hg : xs[k]? = some (gt_ xs k) := by simp [gt_, List.getD_eq_getElem?_getD, hkl]
      have hY1 := Lib.hid (hY k _ (wr.alloc (.cells #[.int .i64 (gt_ xs k).1, .int .i64 (gt_ xs k).2.1, .int .i64 (gt_ xs k).2.2] 61)) hlt hg (hS.out.allocG _))
      generalize gt_ xs k = x at *
      obtain ⟨x0, x1, x2⟩ := x
      simp only [tV] at z0 z1 z2 hY1
      obtain ⟨fn, tmps, assign, body, hy, hR⟩ := hY1.out
      have i1 : (0 : Int) ≤ (k : Int) := by omega
      have i2 : (k : Int) < (n : Int) := by omega
      clear hY1 hg
      gi_wp2
      refine hR.mono ?_
      rintro e W3 ⟨rfl, hS3⟩
      replace hS3 := Lib.hid hS3
      gi_wp2
      go_roundw
      case rel => exact ⟨k + 1, by omega, by simp, hS3⟩
      case measure => simp [intOf]; omega
    · obtain rfl : k = n := by omega
      gi_wp2
      go_end0
      exact ⟨⟨_, rfl⟩, hS.out⟩
set_option maxHeartbeats 1000000 in
theorem values_any (a : Option Addr) (n c : Nat) (w : World) :
    Calls Try.prog 41 #[.slice a n c] w fun e w' => e = .returned (.func (.func valfn) #[] #[.pointer (some ⟨w.heap.size, 0, none⟩)]) ∧ w' = w.alloc (.cells #[.slice a n c] 56) := by
  go_enter Try.func41, Try.ntmps41
  go_wp2_with fail
  go_ret
  exact ⟨rfl, rfl⟩
/-- What is collected: a slice in a box. -/
def boxR (B : Nat) (k : Nat) (L : List Tm) : Res := exi fun (x : Option Addr × Nat) => star (blk B 55 #[.slice x.1 k x.2]) (tVec (.slice x.1 k x.2) k (L.take k))
set_option maxRecDepth 100000 in
set_option maxHeartbeats 4000000 in
theorem appendSeq_any (Bv n c : Nat) (a : Option Addr) (xs : List Tm) (w : World) (rs : List Res) (hl : xs.length = n) (hn : n ≤ 1000) (hS : Sep w (blk Bv 56 #[.slice a n c] :: tVec (.slice a n c) n xs :: rs)) :
    Calls Try.prog 49 #[.slice none 0 0, .func (.func valfn) #[] #[.pointer (some ⟨Bv, 0, none⟩)]] w fun e w' => ∃ (a' : Option Addr) (c' : Nat), e = .returned (.slice a' n c') ∧ Sep w' (tVec (.slice a' n c') n xs :: blk Bv 56 #[.slice a n c] :: tVec (.slice a n c) n xs :: rs) := by
  obtain ⟨i0, hi, hz0, hz1, hz2⟩ := info_parts info_t
  have hA := Lib.hid (((Sep.exi_mk (f := fun (x : Option Addr × Nat) => star (blk _ 55 #[.slice x.1 0 x.2]) (tVec (.slice x.1 0 x.2) 0 (xs.take 0))) (none, 0) (Sep.gstar.2 ((hS.alloc #[.slice none 0 0] 55).vec_nil 61 3).to1)).bring 2 rfl).bring 2 rfl)
  replace hl := Lib.hid hl
  clear hS
  have htk := Lib.hid (List.take_of_length_le (Nat.le_of_eq hl.out))
  refine (callsIn_wide (n := 8)).1 ?_
  have k1 : 1 ≤ 8 := by omega
  refine callsIn_of_wp_marks Try.func49 rfl trivial ?_ rfl
  simp only [Try.ntmps49, List.size_toArray, List.length_cons, List.length_nil, Nat.reduceAdd, Nat.reduceSub, Array.replicate_succ, Array.replicate_zero, List.push_toArray, List.append_toArray, List.nil_append, List.cons_append]
  gi_wp2
  obtain ⟨B, hBe⟩ : ∃ B, w.heap.size = B := ⟨_, rfl⟩
  rw [hBe] at hA ⊢
  generalize w.alloc (.cells #[.slice none 0 0] 55) = w0 at hA ⊢
  clear hBe
  refine range_sep rfl k1 (gf := valfn) (lb := #[.pointer (some ⟨Bv, 0, none⟩)]) rfl trivial (enters_of Try.func45 (by kernel_rfl) rfl) (rs := blk Bv 56 #[.slice a n c] :: tVec (.slice a n c) n xs :: boxR B 0 xs :: rs) (rs' := blk Bv 56 #[.slice a n c] :: tVec (.slice a n c) n xs :: boxR B n xs :: rs) hA.out ?seq ?done
  case seq =>
    intro fn l D W hfn hW
    refine (values1_in (8 - 1) (by omega) l Bv n c a xs (fun k => ob l (.loop (recR fn _ _ _ _ D .ready)) :: ob D (.deferred (some [])) :: boxR B k xs :: rs) hl.out hn ?_ W (((hW.bring 2 rfl).bring 3 rfl).bring 1 rfl)).mono ?_
    case refine_2 =>
      rintro e W2 ⟨hv, h2⟩
      exact ⟨hv, ((h2.bring 3 rfl).bring 3 rfl)⟩
    rintro k ⟨x0, x1, x2⟩ W3 hk hx hS3
    refine YieldAt.mono (round_sep hfn rfl (hS3.bring 2 rfl) (rs' := blk Bv 56 #[.slice a n c] :: tVec (.slice a n c) n xs :: ob D (.deferred (some [])) :: boxR B (k + 1) xs :: rs) ?_) ?_
    case refine_2 =>
      rintro e W4 ⟨rfl, h4⟩
      exact ⟨rfl, ((h4.bring 1 rfl).bring 2 rfl).bring 1 rfl⟩
    have hS4 := Lib.hid (((hS3.bring 2 rfl).alloc #[.int .i64 x0, .int .i64 x1, .int .i64 x2] 61).to1)
    clear hS3 hW hA
    replace hx := Lib.hid hx
    unfold tV
    gi_wp2
    refine ⟨_, hS4.out, ?_⟩
    intro W5 hS5
    clear hS4
    generalize W3.heap.size = X at hS5 ⊢
    obtain ⟨⟨va, vc⟩, hS6⟩ := (hS5.bring 5 rfl).gexi
    replace hS6 := Sep.gstar.1 hS6
    clear hS5
    obtain ⟨_, c0, f0⟩ := hS6.b1
    obtain ⟨_, y0, y1, y2, _⟩ := (hS6.bring 3 rfl).b3
    have hV := hS6.to1
    have hml : k + 1 ≤ maxLen := by simp only [maxLen]; omega
    have hbt : (k + 1) * 24 ≤ 140737488355328 := by omega
    replace hS6 := Lib.hid hS6
    gi_wp2_with (gi_at_builtin; refine wpListIn_append_sep (hV.allocG _) rfl _ _ 55 rfl i0 (.agg #[.int .i64 0, .int .i64 0, .int .i64 0]) 24 Try.underlying55 hi hz0 hz1 hz2 rfl (by decide) rfl 1 [.int .i64 x0, .int .i64 x1, .int .i64 x2] (srcA_cells W5 #[.int .i64 x0, .int .i64 x1, .int .i64 x2] 61 1 3 rfl) (by simp [Value.oneCell']) hml hbt ?_; intro a' c' w1 hS7; obtain ⟨_, c1, f1⟩ := hS7.to1.b1; replace hS7 := Lib.hid hS7)
    have hcs := take_snoc xs k (x0, x1, x2) hx.out
    have h8 := hS7.out.to1.set 0 (.slice a' (k + 1) c')
    rw [hcs] at h8
    have h9 := Sep.exi_mk (f := fun (x : Option Addr × Nat) => star (blk B 55 #[.slice x.1 (k + 1) x.2]) (tVec (.slice x.1 (k + 1) x.2) (k + 1) (xs.take (k + 1)))) (a', c') (Sep.gstar.2 h8)
    exact (((((h9.bring 2 rfl).tail.bring 4 rfl).bring 4 rfl).bring 4 rfl).bring 4 rfl)
  case done =>
    rintro D W hW
    obtain ⟨⟨va, vc⟩, hS6⟩ := (hW.bring 3 rfl).gexi
    replace hS6 := Sep.gstar.1 hS6
    obtain ⟨_, c0, f0⟩ := hS6.b1
    have hD := hW.ob_get
    rw [htk.out] at hS6
    have hS7 := Lib.hid (((hS6.bring 2 rfl).ob_set (.deferred none)).tail.tail)
    clear hW hS6 hA
    gi_wp2
    refine ⟨by simp, .inl ⟨_, _, rfl, run_takeDeferred hD, ?_⟩⟩
    exact ⟨_, results_tmp rfl _ _ _, va, vc, rfl, hS7.out⟩
set_option maxHeartbeats 1000000 in
theorem collect_any (Bv n c : Nat) (a : Option Addr) (xs : List Tm) (w : World) (rs : List Res) (hl : xs.length = n) (hn : n ≤ 1000) (hS : Sep w (blk Bv 56 #[.slice a n c] :: tVec (.slice a n c) n xs :: rs)) :
    Calls Try.prog 43 #[.func (.func valfn) #[] #[.pointer (some ⟨Bv, 0, none⟩)]] w fun e w' => ∃ (a' : Option Addr) (c' : Nat), e = .returned (.slice a' n c') ∧ Sep w' (tVec (.slice a' n c') n xs :: blk Bv 56 #[.slice a n c] :: tVec (.slice a n c) n xs :: rs) := by
  have HA := Lib.hid (appendSeq_any Bv n c a xs w rs hl hn hS)
  clear hS
  go_enter Try.func43, Try.ntmps43
  go_wp2_with fail
  refine HA.out.mono ?_
  rintro e w1 ⟨a', c', rfl, h⟩
  replace h := Lib.hid h
  go_wp2_with fail
  go_ret
  exact ⟨a', c', rfl, h.out⟩
theorem swo_tm : SWO (ltOf cmpT) := by
  have e : ∀ x y, ltOf cmpT x y = ltT x y := fun x y => rfl
  refine ⟨fun x => by rw [e]; exact ordT.refl x, fun x y z h1 h2 => ?_, fun x y z h1 h2 => ?_⟩
  · rw [e] at *; rw [ltT_iff] at *; omega
  · rw [e] at *; rw [ltT_no] at *; omega
theorem eg_cmpT : ∀ args w, (callFunc 42 args).run Try.prog w = .ok (.enter 42 args) w := enters_of Try.func42 (by kernel_rfl) rfl
theorem isAggT : ∀ w, (isAgg 61).run Try.prog w = .ok true w := fun w => by kernel_rfl
theorem sizeOfT : ∀ w, (Go.sizeOf 61).run Try.prog w = .ok 3 w := fun w => by kernel_rfl
theorem sortTm_any (a : Option Addr) (n c : Nat) (xs : List Tm) (w : World) (rs : List Res) (hS : Sep w (tVec (.slice a n c) n xs :: rs)) (hl : xs.length = n) (hn : n ≤ 1000000) :
    Calls Try.prog 44 #[.slice a n c, .func (.func 42) #[] #[]] w fun e w' => e = .returned (.tuple #[]) ∧ ∃ ys : List Tm, ys.Perm xs ∧ ys.Pairwise (fun a b => ltT b a = false) ∧ Sep w' (tVec (.slice a n c) n ys :: rs) := by
  rcases Nat.eq_zero_or_pos n with h0 | h0
  · subst h0
    have hx := List.eq_nil_of_length_eq_zero hl
    subst hx
    refine (AnyF.slices_SortFunc_none Try.sortTimers a c _ w).mono ?_
    rintro e w' ⟨rfl, rfl⟩
    exact ⟨rfl, [], List.Perm.refl _, List.Pairwise.nil, hS⟩
  · obtain ⟨g, rfl⟩ := vec_some hS h0
    obtain ⟨hH, hg⟩ := hS.vec_holdsK tC tC_len xs
    have hcmp : CmpLays Try.prog 42 #[] tC 3 cmpT g 0 xs.toArray.size w := fun m os dk _ x y => (compareT_any x y _).mono fun e w' h => ⟨h.1, h.2.1⟩
    have hcon := AnyQ.slices_SortFunc Try.sortTimers 3 isAggT sizeOfT tC tC_len (fun x v hv => by simp [tC] at hv; rcases hv with rfl | rfl | rfl <;> rfl) cmpT swo_tm 42 #[] g 0 c xs.toArray w eg_cmpT hcmp hH hg (by simp; omega)
    rw [show xs.toArray.size = n by simp [hl]] at hcon
    refine Calls.mono (show Calls Try.prog 44 _ w _ from hcon) ?_
    rintro e w' ⟨rfl, d', m, os, hp, hs, rfl⟩
    rw [show n = xs.toArray.size by simp [hl]] at hp hs
    obtain ⟨hsz, hperm⟩ := perm_list hp
    have hsrt := sorted_list hsz hs
    refine ⟨rfl, d'.toList, by simpa using hperm, hsrt.imp (fun {a b} h => h), ?_⟩
    have := hS.vec_row id m (flatK tC 3 d') os (by rw [size_flatK, hsz]; simp [hl])
    rw [flatK_list tC 3 tC_len d', List.map_id] at this
    exact this
theorem srt_uniq {ys L : List Tm} (hp : ys.Perm L) (hs : ys.Pairwise fun a b => ltT b a = false) (hL : L.Pairwise ltP) : ys = L := by
  refine List.Perm.eq_of_pairwise (le := fun a b => ltT b a = false) (fun a b _ _ h1 h2 => ?_) hs (hL.imp fun h => ltP_ne h) hp
  rw [ltT_no] at h1 h2
  obtain ⟨a0, a1, a2⟩ := a
  obtain ⟨b0, b1, b2⟩ := b
  simp only at h1 h2
  have e0 : a0 = b0 := by omega
  have e1 : a1 = b1 := by omega
  have e2 : a2 = b2 := by omega
  rw [e0, e1, e2]
set_option maxHeartbeats 1000000 in
theorem sortedFunc_any (Bv n c : Nat) (a : Option Addr) (xs L : List Tm) (w : World) (rs : List Res) (hl : xs.length = n) (hn : n ≤ 1000) (hp : xs.Perm L) (hL : L.Pairwise ltP) (hS : Sep w (blk Bv 56 #[.slice a n c] :: tVec (.slice a n c) n xs :: rs)) :
    Calls Try.prog 40 #[.func (.func valfn) #[] #[.pointer (some ⟨Bv, 0, none⟩)], .func (.func 42) #[] #[]] w fun e w' => ∃ (a' : Option Addr) (c' : Nat), e = .returned (.slice a' n c') ∧ Sep w' (tVec (.slice a' n c') n L :: blk Bv 56 #[.slice a n c] :: tVec (.slice a n c) n xs :: rs) := by
  have HC := Lib.hid (collect_any Bv n c a xs w rs hl hn hS)
  have HS := Lib.hid (fun a' c' W h => sortTm_any a' n c' xs W (blk Bv 56 #[.slice a n c] :: tVec (.slice a n c) n xs :: rs) h hl (by omega))
  have HU := Lib.hid (fun ys (h1 : ys.Perm xs) h2 => srt_uniq (ys := ys) (h1.trans hp) h2 hL)
  clear hS hp hL
  go_enter Try.func40, Try.ntmps40
  go_wp2_with fail
  refine HC.out.mono ?_
  rintro e w1 ⟨a', c', rfl, h⟩
  replace h := Lib.hid h
  clear HC
  go_wp2_with fail
  refine (HS.out a' c' _ h.out).mono ?_
  rintro e w2 ⟨rfl, ys, hy, hpw, q⟩
  have hu := HU.out ys hy hpw
  rw [hu] at q
  clear hu hy hpw
  replace q := Lib.hid q
  go_wp2_with fail
  go_ret
  exact ⟨a', c', rfl, q.out⟩
end Go.Proofs.Ytcbjgibcgalppaa
