/-
  The contract of Parent; the chapter's examples hold (lives). No condition.
-/
import Derived.Test.YtiaibmabmholaaaDoorNmP
namespace Go.Proofs.YtiaibmabmholaaaDoor
open Go.RowKit
/-- What Parent answers. -/
def ParV (t r a b : Int) (c : Bool) : Prop := (lv t r < 1 ∧ a = 0 ∧ b = 0 ∧ c = false) ∨ (lv t r = 1 ∧ a = -1 ∧ b = -1 ∧ c = true) ∨ (lv t r = 2 ∧ a = t ∧ b = -1 ∧ c = true)
set_option maxHeartbeats 1000000 in
theorem parent_any (t r : Int) (w : World) : Calls Tryd.prog 17 #[(.agg #[.int .i64 t, .int .i64 r])] w fun e w' => ∃ (a b : Int) (c : Bool), e = .returned (.tuple #[(.agg #[.int .i64 a, .int .i64 b]), .bool c]) ∧ ParV t r a b c ∧ Below w.heap.size w w' := by
  have hS := Lib.hid (box2 w t r 0 0)
  obtain ⟨z, c0, c1, _⟩ := hS.out.to1.b2
  go_enter Tryd.func17, Tryd.ntmps17
  go_wp2_with fail
  refine (ancestors_any _ _ _).mono ?_
  rintro e w1 ⟨g, k, rfl, hk, hA⟩
  have hT := Lib.hid (hA.graft hS.out)
  clear c0 c1 z hS hA
  obtain ⟨_, a0, a1, a2, a3, _⟩ := hT.out.b4
  obtain ⟨_, d0, d1, f0, f1⟩ := hT.out.to1.b2
  have hs := lv_spec t r
  have hkl := hk.lt
  unfold AncK at hk
  have h3 : k = 0 ∨ k = 1 ∨ k = 2 := by omega
  rcases h3 with rfl | rfl | rfl
  · have hv : ParV t r 0 0 false := .inl ⟨by split at hk <;> omega, rfl, rfl, rfl⟩
    replace hv := Lib.hid hv
    clear hk hs hkl
    go_wp2_with fail
    refine bodyPost_ret (v := .tuple #[(.agg #[.int .i64 0, .int .i64 0]), .bool false]) (by simp [results, Tryd.results17, go_sem, *]) rfl ⟨_, _, _, rfl, hv.out, ?_⟩
    exact ((hT.out.to1.set 0 _).set 1 _).tail.tail.tail.gold
  · have hv : ParV t r (-1) (-1) true := .inr (.inl ⟨by split at hk <;> omega, rfl, rfl, rfl⟩)
    replace hv := Lib.hid hv
    clear hk hs hkl
    go_wp2_with fail
    refine bodyPost_ret (v := .tuple #[(.agg #[.int .i64 (-1), .int .i64 (-1)]), .bool true]) (by simp [results, Tryd.results17, go_sem, *]) rfl ⟨_, _, _, rfl, hv.out, ?_⟩
    exact ((hT.out.to1.set 0 _).set 1 _).tail.tail.tail.gold
  · have hv : ParV t r t (-1) true := .inr (.inr ⟨by split at hk <;> omega, rfl, rfl, rfl⟩)
    replace hv := Lib.hid hv
    clear hk hs hkl
    go_wp2_with fail
    refine bodyPost_ret (v := .tuple #[(.agg #[.int .i64 t, .int .i64 (-1)]), .bool true]) (by simp [results, Tryd.results17, go_sem, *]) rfl ⟨_, _, _, rfl, hv.out, ?_⟩
    exact ((hT.out.to1.set 0 _).set 1 _).tail.tail.tail.gold
theorem lv37 : lv 3 7 = 2 := by decide
theorem txt37 : txt 3 7 = ⟨#[116, 51, 46, 114, 55]⟩ := by decide +kernel
set_option maxHeartbeats 1000000 in
theorem lives_any (w : World) : Calls Tryd.prog 9 #[] w fun e w' => e = .returned (.bool true) ∧ Below w.heap.size w w' := by
  have HT := Lib.hid (fun W => text_any 3 7 W)
  rw [txt37] at HT
  go_enter Tryd.func9, Tryd.ntmps9
  go_wp2_with fail
  refine (record_any _ _ _).mono ?_
  rintro e w1 ⟨a, b, c, rfl, hv, b1⟩
  obtain ⟨rfl, rfl, rfl⟩ : a = 3 ∧ b = 7 ∧ c = 0 := by
    rcases hv with ⟨_, h⟩ | ⟨h, _⟩
    · exact h
    · exact absurd lv37 h
  have hS := Lib.hid (((Sep.start w).below b1).alloc #[Value.int .i64 (3), Value.int .i64 (7)] 23)
  clear hv b1
  obtain ⟨z, c0, c1, _⟩ := hS.out.b2
  go_wp2_with fail
  refine (HT.out _).mono ?_
  rintro e w2 ⟨rfl, b2⟩
  replace hS := Lib.hid (hS.out.below b2)
  clear b2 c0 c1 z
  obtain ⟨z, c0, c1, _⟩ := hS.out.b2
  go_wp2_with fail
  refine (ancestors_any _ _ _).mono ?_
  rintro e w3 ⟨g, k, rfl, hk, hA⟩
  obtain rfl : k = 2 := by unfold AncK at hk; rw [lv37] at hk; simp at hk; omega
  have hR := Lib.hid (anc_RN hk hA)
  replace hS := Lib.hid (hA.graft hS.out)
  clear hA hk c0 c1 z
  go_wp2_with fail
  refine (db_any _).mono ?_
  rintro e w4 ⟨rfl, b4⟩
  replace hS := Lib.hid (hS.out.below b4)
  replace hR := Lib.hid (hR.out.below b4)
  clear b4
  go_wp2_with fail
  refine (tK_any _ _).mono ?_
  rintro e w5 ⟨rfl, b5⟩
  replace hS := Lib.hid (hS.out.below b5)
  replace hR := Lib.hid (hR.out.below b5)
  clear b5
  have hS2 := Lib.hid (hS.out.alloc #[.int .i64 (-1), .int .i64 (-1), .int .i64 3, .int .i64 (-1)] 23)
  have hR2 := Lib.hid (hR.out.below (w' := w5.alloc (.cells #[.int .i64 (-1), .int .i64 (-1), .int .i64 3, .int .i64 (-1)] 23)) ((Below.refl _ _).alloc (Nat.le_refl _) _))
  have hR3 := Lib.hid (anc_RN (w0 := w5) (t := 3) (r := 7) (k := 2) (show AncK 3 7 2 by unfold AncK; rw [lv37]; rfl) ((Sep.start w5).alloc #[.int .i64 (-1), .int .i64 (-1), .int .i64 3, .int .i64 (-1)] 23))
  have hsm := Lib.hid (sameN_true _ _ (ancL 3 7 2) _ (by decide) hR2.out hR3.out)
  go_wp2_with fail
  refine hsm.out.mono ?_
  rintro e w6 ⟨rfl, m, rfl⟩
  go_wp2_with fail
  go_ret
  exact ⟨rfl, below_drewN' hS2.out.tail.tail.tail.gold _⟩
end Go.Proofs.YtiaibmabmholaaaDoor
