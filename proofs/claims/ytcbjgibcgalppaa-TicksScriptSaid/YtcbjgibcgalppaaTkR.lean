/-
  The document's clock: at, less, Each, Len, Now, Next, New. No condition beside a clock that can be read.
-/
import Derived.Test.YtcbjgibcgalppaaTkN
import Derived.Test.YtcbjgibcgalppaaTkX
import Derived.Test.YtcbjgibcgalppaaTkQ
namespace Go.Proofs.Ytcbjgibcgalppaa
open Go.RowKit Go.Shelf
abbrev rBlk (o : Nat) (T : Int) (v : Value) : Res := blk o 67 #[.int .i64 T, v]
abbrev aVec (v : Value) (n : Nat) (xs : List Tm) : Res := vec 34 3 v n (xs.flatMap tC)
/-- The document's clock at o: its time, its timers in order. -/
def refR (o : Nat) (T : Int) (L : List Tm) : Res := exi fun (x : Option Addr × Nat) => star (rBlk o T (.slice x.1 L.length x.2)) (aVec (.slice x.1 L.length x.2) L.length L)
theorem ref_open {w : World} {o : Nat} {T : Int} {L : List Tm} {rs : List Res} (h : Sep w (refR o T L :: rs)) : ∃ a c, Sep w (rBlk o T (.slice a L.length c) :: aVec (.slice a L.length c) L.length L :: rs) := by
  obtain ⟨⟨a, c⟩, h1⟩ := h.gexi
  exact ⟨a, c, Sep.gstar.1 h1⟩
theorem ref_close {w : World} {o : Nat} {T : Int} {L : List Tm} {rs : List Res} {a : Option Addr} {n c : Nat} (hn : L.length = n) (h : Sep w (rBlk o T (.slice a n c) :: aVec (.slice a n c) n L :: rs)) : Sep w (refR o T L :: rs) := by
  subst hn
  exact Sep.exi_mk (a, c) (Sep.gstar.2 h)
theorem Sep.aAt {w : World} {g n c : Nat} {xs : List Tm} {rs : List Res} (h : Sep w (aVec (.slice (some ⟨g, 0, none⟩) n c) n xs :: rs)) (k : Nat) (hk : k < xs.length) : At3 w g k (gt_ xs k) ∧ g < w.heap.size := by
  have e : xs[k]? = some (gt_ xs k) := by simp [gt_, List.getD_eq_getElem?_getD, hk]
  have f := fun j => flat_at tC 3 tC_len xs k j _ e
  exact ⟨⟨(h.vec_cell (f 0 (by omega))).1, (h.vec_cell (f 1 (by omega))).1, (h.vec_cell (f 2 (by omega))).1⟩, (h.vec_cell (f 0 (by omega))).2.2⟩
theorem av_some {w : World} {a : Option Addr} {n c : Nat} {xs : List Tm} {rs : List Res} (h : Sep w (aVec (.slice a n c) n xs :: rs)) (h0 : 0 < n) : ∃ g, a = some ⟨g, 0, none⟩ := by
  rcases h.gvec.2 with ⟨_, h1⟩ | ⟨g, cap, cur, hv, _⟩
  · omega
  · injection hv with e1 _ e3
    exact ⟨g, e1⟩
theorem fresh_at (w : World) : Sep (w.alloc (.cells #[] 34)) [vec 34 3 (.slice (some ⟨w.heap.size, 0, none⟩) 0 0) 0 [], old w] :=
  ((Sep.start w).alloc #[] 34).blk_vec (by simp) (Nat.le_refl _) (by unfold maxLen; omega) (by simp) (by simp)
theorem rnew_any (w : World) : Calls Try.prog 18 #[] w fun e w' => ∃ o, e = .returned (.pointer (some ⟨o, 0, none⟩)) ∧ Sep w' [refR o 0 [], old w] := by
  have hS := Lib.hid ((((Sep.start w).alloc #[.int .i64 0, .slice none 0 0] 67).vec_nil 34 3).to1)
  go_enter Try.func18, Try.ntmps18
  go_wp2_with fail
  go_ret
  exact ⟨_, rfl, ref_close rfl hS.out⟩
theorem rnow_any (o : Nat) (T : Int) (L : List Tm) (w : World) (rs : List Res) (hS : Sep w (refR o T L :: rs)) : Calls Try.prog 23 #[.pointer (some ⟨o, 0, none⟩)] w fun e w' => e = .returned (.int .i64 T) ∧ w' = w := by
  obtain ⟨a, c, hS1⟩ := ref_open hS
  obtain ⟨_, c0, c1, _⟩ := hS1.b2
  clear hS hS1
  go_enter Try.func23, Try.ntmps23
  go_wp2_with fail
  go_ret
  exact ⟨rfl, rfl⟩
theorem rlen_any (o : Nat) (T : Int) (L : List Tm) (w : World) (rs : List Res) (hS : Sep w (refR o T L :: rs)) : Calls Try.prog 24 #[.pointer (some ⟨o, 0, none⟩)] w fun e w' => e = .returned (.int .i64 L.length) ∧ w' = w := by
  obtain ⟨a, c, hS1⟩ := ref_open hS
  obtain ⟨_, c0, c1, _⟩ := hS1.b2
  clear hS hS1
  generalize L.length = n at *
  go_enter Try.func24, Try.ntmps24
  go_wp2_with fail
  go_ret
  exact ⟨rfl, rfl⟩
set_option maxHeartbeats 1000000 in
theorem rnext_some (o : Nat) (T : Int) (x : Tm) (M : List Tm) (w : World) (rs : List Res) (hS : Sep w (refR o T (x :: M) :: rs)) : Calls Try.prog 22 #[.pointer (some ⟨o, 0, none⟩)] w fun e w' => e = .returned (.tuple #[tV x, .bool true]) ∧ Below w.heap.size w w' := by
  obtain ⟨a, c, hS1⟩ := ref_open hS
  obtain ⟨g, rfl⟩ := av_some hS1.to1 (by simp)
  obtain ⟨⟨z0, z1, z2⟩, hg⟩ := hS1.to1.aAt 0 (by simp)
  rw [show gt_ (x :: M) 0 = x from rfl] at z0 z1 z2
  rw [show (x :: M).length = M.length + 1 from rfl] at hS1
  obtain ⟨x0, x1, x2⟩ := x
  simp only [Nat.zero_mul, Nat.zero_add] at z0 z1 z2
  obtain ⟨_, c0, c1, _⟩ := hS1.b2
  have n0 : ¬ ((M.length + 1 : Nat) : Int) = 0 := by omega
  have n1 : (((M.length + 1 : Nat) : Int) == 0) = false := beq_eq_false_iff_ne.2 n0
  have n2 : (0 : Int) < ((M.length + 1 : Nat) : Int) := by omega
  have hB := Lib.hid ((Below.refl w.heap.size w).alloc (Nat.le_refl _) (.cells #[.int .i64 x0, .int .i64 x1, .int .i64 x2] 34))
  clear hS hS1
  generalize M.length + 1 = m at *
  unfold tV
  go_enter Try.func22, Try.ntmps22
  go_wp2_with fail
  refine bodyPost_ret (v := .tuple #[.agg #[.int .i64 x0, .int .i64 x1, .int .i64 x2], .bool true]) (by simp [results, Try.results22, go_sem, *]) rfl ⟨rfl, hB.out⟩
set_option maxHeartbeats 1000000 in
theorem rnext_none (o : Nat) (T : Int) (w : World) (rs : List Res) (hS : Sep w (refR o T [] :: rs)) : Calls Try.prog 22 #[.pointer (some ⟨o, 0, none⟩)] w fun e w' => e = .returned (.tuple #[tV (0, 0, 0), .bool false]) ∧ Below w.heap.size w w' := by
  obtain ⟨a, c, hS1⟩ := ref_open hS
  obtain ⟨_, c0, c1, _⟩ := hS1.b2
  rw [show ([] : List Tm).length = 0 from rfl] at c1
  have hB := Lib.hid ((Below.refl w.heap.size w).alloc (Nat.le_refl _) (.cells #[.int .i64 0, .int .i64 0, .int .i64 0] 34))
  clear hS hS1
  unfold tV
  go_enter Try.func22, Try.ntmps22
  go_wp2_with fail
  refine bodyPost_ret (v := .tuple #[.agg #[.int .i64 0, .int .i64 0, .int .i64 0], .bool false]) (by simp [results, Try.results22, go_sem, *]) rfl ⟨rfl, hB.out⟩
set_option maxHeartbeats 1000000 in
theorem reach_any (o : Nat) (T : Int) (L : List Tm) (w : World) (rs : List Res) (hS : Sep w (refR o T L :: rs)) (hn : L.length ≤ 900) : Calls Try.prog 25 #[.pointer (some ⟨o, 0, none⟩)] w fun e w' => ∃ (a : Option Addr) (c : Nat), e = .returned (.slice a L.length c) ∧ Sep w' (aVec (.slice a L.length c) L.length L :: refR o T L :: rs) := by
  obtain ⟨a, c, hS1⟩ := ref_open hS
  have one := Lib.hid (tms_one L)
  obtain ⟨i0, hi0, hz0, hz1, hz2⟩ := info_parts info_at
  have hE := Lib.hid ((fresh_at w).graft hS1)
  have hsrc := Lib.hid hE.out.to2.vec_rl.srcA
  obtain ⟨_, c0, c1, _⟩ := hE.out.to1.b2
  clear hS hS1
  obtain ⟨n, hl⟩ : ∃ n, L.length = n := ⟨_, rfl⟩
  rw [hl] at hE hsrc c1 hn ⊢
  replace hl := Lib.hid hl
  go_enter Try.func25, Try.ntmps25
  go_wp2_with (at_builtin; refine wpList_append_sep hE.out rfl _ _ 36 rfl i0 (.agg #[.int .i64 0, .int .i64 0, .int .i64 0]) 24 Try.underlying36 hi0 hz0 hz1 hz2 rfl (by decide) rfl n (L.flatMap tC) hsrc.out one.out (by simp only [maxLen]; omega) (by omega) ?_; intro a' c' w1 hS1; replace hS1 := Lib.hid hS1)
  go_ret
  refine ⟨a', c', by simp, ?_⟩
  have h := hS1.out
  rw [Nat.zero_add, List.nil_append] at h
  exact (ref_close hl.out ((h.bring 1 rfl).bring 2 rfl |>.to1)).to1
end Go.Proofs.Ytcbjgibcgalppaa
