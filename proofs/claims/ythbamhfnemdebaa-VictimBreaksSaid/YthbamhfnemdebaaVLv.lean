/-
  The chapter's example of victims: lives. No condition.
-/
import Derived.Test.YthbamhfnemdebaaVVi
import Derived.Test.YthbamhfnemdebaaSame
namespace Go.Proofs.Ythbamhfnemdebaa
open Go.RowKit
abbrev exL : List Ed := [⟨1, 2⟩, ⟨2, 1⟩]
abbrev exA : List Ag := [⟨1, 5⟩, ⟨2, 3⟩]
theorem ex_cyc : cyc exL = ([1, 2], true) := by
  unfold cyc nxL
  rw [sdE_self exL (by simp [ltE])]
  rfl
theorem cyc_nil : cyc [] = ([], false) := by
  unfold cyc nxL
  rw [sdE_self [] (by simp)]
  rfl
theorem ex_vic : vic exA exL = [1] := by
  rw [vic_yes exA exL (by rw [ex_cyc])]
  have h : vc exA exL = 1 := by
    unfold vc
    rw [ex_cyc]
    rfl
  rw [h, show keepL (onE 1) exL = [] from rfl, vic_no exA [] (by rw [cyc_nil])]
theorem ed_rl {w : World} {g n : Nat} {cs : Array Value} {rs : List Res} (L : List Ed) (h : Sep w (blk g 29 cs :: rs)) (hc : cs.toList = L.flatMap Ed.cells) (hn : L.length = n) (hm : n ≤ 1000) : RL w (.slice (some ⟨g, 0, none⟩) n n) 2 L.length (L.flatMap Ed.cells) := by
  have hl : (L.flatMap Ed.cells).length = n * 2 := by rw [flat_len Ed.cells 2 ed_len, hn]
  have hs : cs.size = n * 2 := by rw [← Array.length_toList, hc, hl]
  have := (h.blk_vec (size := 2) (n := n) (c := n) (xs := L.flatMap Ed.cells) hl (Nat.le_refl _) (by simp only [maxLen]; omega) hs (by rw [hc, ← hl, List.take_length])).vec_rl
  rw [hn]
  exact this
theorem ag_rl {w : World} {g n : Nat} {cs : Array Value} {rs : List Res} (L : List Ag) (h : Sep w (blk g 43 cs :: rs)) (hc : cs.toList = L.flatMap Ag.cells) (hn : L.length = n) (hm : n ≤ 1000) : RL w (.slice (some ⟨g, 0, none⟩) n n) 2 L.length (L.flatMap Ag.cells) := by
  have hl : (L.flatMap Ag.cells).length = n * 2 := by rw [flat_len Ag.cells 2 ag_len, hn]
  have hs : cs.size = n * 2 := by rw [← Array.length_toList, hc, hl]
  have := (h.blk_vec (size := 2) (n := n) (c := n) (xs := L.flatMap Ag.cells) hl (Nat.le_refl _) (by simp only [maxLen]; omega) hs (by rw [hc, ← hl, List.take_length])).vec_rl
  rw [hn]
  exact this
theorem int_ri {w : World} {g n : Nat} {t : TypeId} {cs : Array Value} {rs : List Res} (xs : List Int) (h : Sep w (blk g t cs :: rs)) (hc : cs.toList = xs.map (Value.int .i64)) (hn : xs.length = n) (hm : n ≤ 1000) : RI w (.slice (some ⟨g, 0, none⟩) n n) xs := by
  have hl : (xs.map (Value.int .i64)).length = n * 1 := by rw [List.length_map, hn, Nat.mul_one]
  have hs : cs.size = n * 1 := by rw [← Array.length_toList, hc, hl]
  exact (h.blk_vec (size := 1) (n := n) (c := n) (xs := xs.map (Value.int .i64)) hl (Nat.le_refl _) (by simp only [maxLen]; omega) hs (by rw [hc, ← hl, List.take_length])).vec_ri
set_option maxHeartbeats 4000000 in
set_option maxRecDepth 100000 in
theorem lives_any (w : World) : Calls Try.prog 7 #[] w fun e w' => e = .returned (.bool true) ∧ Below w.heap.size w w' := by
  have hS := Lib.hid (((Sep.start w).alloc #[.int .i64 1, .int .i64 2, .int .i64 2, .int .i64 1] 29).alloc #[.int .i64 1, .int .i64 5, .int .i64 2, .int .i64 3] 43)
  have HV := Lib.hid (victims_any _ _ exL exA _ (ed_rl exL hS.out.to1 rfl rfl (by decide)) (by decide) (ag_rl exA hS.out rfl rfl (by decide)) (by decide))
  rw [ex_vic] at HV
  go_enter Try.func7, Try.ntmps7
  go_wp2_with fail
  simp only [World.size_alloc] at HV hS
  refine HV.out.mono ?_
  rintro e w1 ⟨a, c, rfl, q⟩
  simp only [List.length_cons, List.length_nil] at q ⊢
  replace hS := Lib.hid ((q.graft hS.out).alloc #[.int .i64 1] 3)
  clear q HV
  go_wp2_with fail
  refine (same_true _ _ [1] _ (by decide) hS.out.to1.vec_ri (int_ri [1] hS.out rfl rfl (by decide))).mono ?_
  rintro e w2 ⟨rfl, m, rfl⟩
  replace hS := Lib.hid (hS.out.drewN m)
  go_wp2_with fail
  go_ret
  exact ⟨rfl, (hS.out.bring 4 rfl).gold⟩
end Go.Proofs.Ythbamhfnemdebaa
