/-
  The document's clock: Drop, Set, Pass. No condition beside a clock that can be read.
-/
import Derived.Test.YtcbjgibcgalppaaTkT
namespace Go.Proofs.Ytcbjgibcgalppaa
open Go.RowKit Go.Shelf
theorem src_pre {w : World} {g n c : Nat} {xs : List Tm} {rs : List Res} (h : Sep w (aVec (.slice (some ⟨g, 0, none⟩) n c) n xs :: rs)) (hl : xs.length = n) (i c' : Nat) (hi : i ≤ n) : SrcA w 3 (.slice (some ⟨g, 0, none⟩) i c') i ((xs.take i).flatMap tC) := by
  refine .inr ⟨_, _, rfl, by rw [flat_len tC 3 tC_len, List.length_take, Nat.min_eq_left (by omega)], fun j u hu => ?_⟩
  rw [← flat_take tC 3 tC_len xs i (by omega)] at hu
  rw [Addr.add_lit, Nat.zero_add]
  rw [List.getElem?_take] at hu
  split at hu
  · exact (h.vec_cell hu).1
  · cases hu
theorem src_suf {w : World} {g n c : Nat} {xs : List Tm} {rs : List Res} (h : Sep w (aVec (.slice (some ⟨g, 0, none⟩) n c) n xs :: rs)) (hl : xs.length = n) (i c' : Nat) (hi : i ≤ n) : SrcA w 3 (.slice (some ⟨g, i * 3, none⟩) (n - i) c') (n - i) ((xs.drop i).flatMap tC) := by
  refine .inr ⟨_, _, rfl, by rw [flat_len tC 3 tC_len, List.length_drop, hl], fun j u hu => ?_⟩
  have e : xs.flatMap tC = (xs.take i).flatMap tC ++ (xs.drop i).flatMap tC := by rw [← List.flatMap_append, List.take_append_drop]
  have hlen : ((xs.take i).flatMap tC).length = i * 3 := by rw [flat_len tC 3 tC_len, List.length_take, Nat.min_eq_left (by omega)]
  have h2 : (xs.flatMap tC)[i * 3 + j]? = some u := by
    rw [e, List.getElem?_append_right (by omega), hlen, Nat.add_sub_cancel_left]
    exact hu
  rw [Addr.add_lit]
  exact (h.vec_cell h2).1
theorem src_end {w : World} {ad : Addr} {c' : Nat} : SrcA w 3 (.slice (some ad) 0 c') 0 [] := .inr ⟨_, _, rfl, rfl, fun j u hu => by simp at hu⟩
theorem rdrop_no (o : Nat) (T : Int) (L : List Tm) (who mark : Int) (w : World) (rs : List Res) (hS : Sep w (refR o T L :: rs)) (hk : L.any (keyB who mark) = false) (hn : L.length ≤ 900) : Calls Try.prog 20 #[.pointer (some ⟨o, 0, none⟩), .int .i64 who, .int .i64 mark] w fun e w' => e = .returned (.bool false) ∧ w' = w := by
  have HP := Lib.hid (rat_any o T L who mark w rs hS hn)
  have hq : idxF (keyB who mark) L 0 = -1 := by
    rcases idxF_bd (keyB who mark) L 0 with ⟨h1, _⟩ | ⟨j, _, _, _, h2⟩
    · exact h1
    · rw [h2] at hk; cases hk
  rw [hq] at HP
  clear hS hk hq
  go_enter Try.func20, Try.ntmps20
  go_wp2_with fail
  refine HP.out.mono ?_
  rintro e w1 ⟨rfl, rfl⟩
  go_wp2_with fail
  go_ret
  exact ⟨rfl, rfl⟩
set_option maxRecDepth 100000 in
set_option maxHeartbeats 1000000 in
theorem rdrop_yes (o : Nat) (T : Int) (L : List Tm) (who mark : Int) (w : World) (rs : List Res) (hS : Sep w (refR o T L :: rs)) (hk : L.any (keyB who mark) = true) (hn : L.length ≤ 900) : Calls Try.prog 20 #[.pointer (some ⟨o, 0, none⟩), .int .i64 who, .int .i64 mark] w fun e w' => e = .returned (.bool true) ∧ Sep w' (refR o T (L.eraseP (keyB who mark)) :: rs) := by
  have HP := Lib.hid (rat_any o T L who mark w rs hS hn)
  rcases idxF_bd (keyB who mark) L 0 with ⟨_, h2⟩ | ⟨j, h1, h2, _, _⟩
  · rw [h2] at hk; cases hk
  have hE := erase_idx _ _ _ _ h1
  rw [h1, Nat.zero_add] at HP
  rw [hE]
  clear hE h1 hk
  obtain ⟨a, c, hS1⟩ := ref_open hS
  obtain ⟨g, rfl⟩ := av_some hS1.to1 (by omega)
  obtain ⟨n, hl⟩ : ∃ n, L.length = n := ⟨_, rfl⟩
  have hc : n ≤ c := by obtain ⟨_, _, h, _⟩ := hS1.to1.vec_blk; rw [hl] at h; exact h
  rw [hl] at hS1 h2 hn
  have hE := Lib.hid ((fresh_at w).graft hS1)
  obtain ⟨_, c0, c1, f0, f1⟩ := hE.out.to1.b2
  obtain ⟨_, d0, d1, _⟩ := hS1.b2
  obtain ⟨i0, hi0, hz0, hz1, hz2⟩ := info_parts info_at
  have one1 := Lib.hid (tms_one (L.take j))
  have one2 := Lib.hid (tms_one (L.drop (j + 1)))
  have hlen := Lib.hid (show (L.take j ++ L.drop (j + 1)).length = j + (n - (j + 1)) by rw [List.length_append, List.length_take, List.length_drop, hl, Nat.min_eq_left (by omega)])
  replace hl := Lib.hid hl
  have i1 : (0 : Int) ≤ (j : Int) := by omega
  have i1' : ¬ (j : Int) < 0 := by omega
  have i2 : (j : Int) < (n : Int) := by omega
  have i3 : (j : Int) ≤ (c : Int) := by omega
  have i4 : (j : Int) + 1 ≤ (n : Int) := by omega
  have i5 : (n : Int) ≤ (c : Int) := by omega
  clear hS hS1
  by_cases hjc : j + 1 = c
  · have hn0 := Lib.hid (show n - (j + 1) = 0 by omega)
    have hd0 := Lib.hid (show L.drop (j + 1) = [] from List.drop_eq_nil_of_le (by rw [hl.out]; omega))
    go_enter Try.func20, Try.ntmps20
    go_wp2_with fail
    refine HP.out.mono ?_
    rintro e w1 ⟨rfl, rfl⟩
    go_wp2_with (first
      | (at_builtin; refine wpList_append_sep q5.out rfl _ _ 36 rfl i0 (.agg #[.int .i64 0, .int .i64 0, .int .i64 0]) 24 Try.underlying36 hi0 hz0 hz1 hz2 rfl (by decide) rfl (n - (j + 1)) ((L.drop (j + 1)).flatMap tC) (by rw [hn0.out, hd0.out]; exact src_end) one2.out (by simp only [maxLen]; omega) (by omega) ?_; intro a2 c2_ w6 q6; obtain ⟨_, m0, m1, mf0, mf1⟩ := q6.to1.b2; replace q6 := Lib.hid q6; clear k0 k1 kf0 kf1)
      | (at_builtin; refine wpList_append_sep hE.out rfl _ _ 36 rfl i0 (.agg #[.int .i64 0, .int .i64 0, .int .i64 0]) 24 Try.underlying36 hi0 hz0 hz1 hz2 rfl (by decide) rfl j ((L.take j).flatMap tC) (src_pre hE.out.to2 hl.out j _ (by omega)) one1.out (by simp only [maxLen]; omega) (by omega) ?_; intro a1 c1_ w5 q5; rw [Nat.zero_add, List.nil_append] at q5; obtain ⟨_, k0, k1, kf0, kf1⟩ := q5.to1.b2; replace q5 := Lib.hid q5; clear c0 c1 f0 f1))
    go_ret
    have h6 := q6.out
    rw [hn0.out, Nat.add_zero] at h6
    have h7 := h6.to1.set 1 (.slice a2 j c2_)
    rw [← List.flatMap_append] at h7
    exact ⟨rfl, ref_close (by rw [hlen.out, hn0.out]; rfl) ((h7.bring 2 rfl).tail)⟩
  · go_enter Try.func20, Try.ntmps20
    go_wp2_with fail
    refine HP.out.mono ?_
    rintro e w1 ⟨rfl, rfl⟩
    go_wp2_with (first
      | (at_builtin; refine wpList_append_sep q5.out rfl _ _ 36 rfl i0 (.agg #[.int .i64 0, .int .i64 0, .int .i64 0]) 24 Try.underlying36 hi0 hz0 hz1 hz2 rfl (by decide) rfl (n - (j + 1)) ((L.drop (j + 1)).flatMap tC) (src_suf q5.out.to2 hl.out (j + 1) _ (by omega)) one2.out (by simp only [maxLen]; omega) (by omega) ?_; intro a2 c2_ w6 q6; obtain ⟨_, m0, m1, mf0, mf1⟩ := q6.to1.b2; replace q6 := Lib.hid q6; clear k0 k1 kf0 kf1)
      | (at_builtin; refine wpList_append_sep hE.out rfl _ _ 36 rfl i0 (.agg #[.int .i64 0, .int .i64 0, .int .i64 0]) 24 Try.underlying36 hi0 hz0 hz1 hz2 rfl (by decide) rfl j ((L.take j).flatMap tC) (src_pre hE.out.to2 hl.out j _ (by omega)) one1.out (by simp only [maxLen]; omega) (by omega) ?_; intro a1 c1_ w5 q5; rw [Nat.zero_add, List.nil_append] at q5; obtain ⟨_, k0, k1, kf0, kf1⟩ := q5.to1.b2; replace q5 := Lib.hid q5; clear c0 c1 f0 f1))
    go_ret
    have h7 := q6.out.to1.set 1 (.slice a2 (j + (n - (j + 1))) c2_)
    rw [← List.flatMap_append] at h7
    exact ⟨rfl, ref_close hlen.out ((h7.bring 2 rfl).tail)⟩
end Go.Proofs.Ytcbjgibcgalppaa
