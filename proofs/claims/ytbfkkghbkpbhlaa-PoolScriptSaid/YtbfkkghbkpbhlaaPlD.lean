/-
  heap.Push and heap.Pop at the pool's free numbers. No condition.
-/
import Derived.Test.YtbfkkghbkpbhlaaPlC
namespace Go.Proofs.Ytbfkkghbkpbhlaa
open Go.RowKit
set_option maxHeartbeats 1000000 in
theorem hpush_any (p : Nat) (fa : Option Addr) (n c : Nat) (lv : Value) (xs : List Int) (v : Int) (w : World) (rs : List Res) (hS : Sep w (pBlk p (.slice fa n c) lv :: jVec (.slice fa n c) n xs :: rs)) (hl : xs.length = n) (hn : n ≤ 999) :
    Calls Try.prog 25 #[.iface 51 (.pointer (some ⟨p, 0, none⟩)), .iface 3 (.int .i64 v)] w fun e w' => e = .returned (.tuple #[]) ∧ ∃ g' c', Sep w' (pBlk p (.slice (some ⟨g', 0, none⟩) (n + 1) c') lv :: iVec g' (n + 1) c' (pushL xs v) :: rs) := by
  have HP := Lib.hid (fpush_any p fa n c lv xs v w rs hS (by omega))
  have mp := mPush (.pointer (some ⟨p, 0, none⟩)) w
  go_enter Try.func25, Try.ntmps25
  go_wp2_with fail
  refine HP.out.mono ?_
  rintro e w1 ⟨rfl, a', c', hS1⟩
  obtain ⟨g', rfl⟩ := vec_some hS1.to1 (by omega)
  have ml := mLen p (some ⟨g', 0, none⟩) (n + 1) c' w1 hS1.b2.2.1
  have HN := Lib.hid (fun W => len_any (some ⟨g', 0, none⟩) (n + 1) c' W)
  have HU := Lib.hid (up_any p g' (n + 1) c' n lv (xs ++ [v]) w1 rs hS1 (by simp [hl]) (by omega) (by omega))
  have hpl : upL (xs ++ [v]) n = pushL xs v := by unfold pushL; rw [hl]
  rw [hpl] at HU
  clear hS1 HP mp hS
  have i3 : ((n + 1 : Nat) : Int) - 1 = (n : Int) := by omega
  go_wp2_with fail
  refine (HN.out _).mono ?_
  rintro e w2 ⟨rfl, rfl⟩
  go_wp2_with fail
  refine HU.out.mono ?_
  rintro e w3 ⟨rfl, hS3⟩
  replace hS3 := Lib.hid hS3
  go_wp2_with fail
  refine bodyPost_end (results_none rfl _ _ _) rfl ⟨rfl, g', c', hS3.out⟩
set_option maxHeartbeats 1000000 in
theorem hpop_any (p g n c : Nat) (lv : Value) (xs : List Int) (w : World) (rs : List Res) (hS : Sep w (pBlk p (.slice (some ⟨g, 0, none⟩) (n + 1) c) lv :: iVec g (n + 1) c xs :: rs)) (hl : xs.length = n + 1) (hn : n ≤ 999) (hh : HeapN xs (n + 1)) (hi : Inj xs) :
    Calls Try.prog 27 #[.iface 51 (.pointer (some ⟨p, 0, none⟩))] w fun e w' => e = .returned (.iface 3 (.int .i64 (xs.getD 0 0))) ∧ Sep w' (pBlk p (.slice (some ⟨g, 0, none⟩) n c) lv :: jVec (.slice (some ⟨g, 0, none⟩) n c) n (popL xs) :: rs) := by
  obtain ⟨hp1, hp2, _⟩ := pop_all xs (by rw [hl]; exact hh) (by omega) hi
  rw [hl, Nat.add_sub_cancel] at hp1
  have hp3 : (downL (swapL xs 0 n) 0 n).length = n + 1 := by rw [hl, Nat.add_sub_cancel] at hp2; exact hp2
  have hp4 : (downL (swapL xs 0 n) 0 n).take n = popL xs := by unfold popL; rw [hl, Nat.add_sub_cancel]
  have ml := mLen p (some ⟨g, 0, none⟩) (n + 1) c w hS.b2.2.1
  have ms := mSwap p (some ⟨g, 0, none⟩) (n + 1) c w hS.b2.2.1
  have HN := Lib.hid (fun W => len_any (some ⟨g, 0, none⟩) (n + 1) c W)
  have HS := Lib.hid (swap_any 0 n hS.to1 hl (by omega) (by omega))
  have i3 : ((n + 1 : Nat) : Int) - 1 = (n : Int) := by omega
  generalize xs.getD 0 0 = y at *
  clear hp2 hh hi hS
  go_enter Try.func27, Try.ntmps27
  go_wp2_with fail
  refine (HN.out _).mono ?_
  rintro e w2 ⟨rfl, rfl⟩
  go_wp2_with fail
  refine HS.out.mono ?_
  rintro e w3 ⟨rfl, hS3⟩
  have HD := Lib.hid (down_any p g (n + 1) c 0 n lv (swapL xs 0 n) w3 rs hS3.to1 (by rw [swapL_len]; exact hl) (by omega) (by omega) (by omega))
  clear HS ms ml hS3 HN
  go_wp2_with fail
  refine HD.out.mono ?_
  rintro e w4 ⟨b, rfl, hS4⟩
  have HP := Lib.hid (fpop_any p g n c lv _ w4 rs hS4 hp3 (by omega))
  rw [hp1, hp4] at HP
  have mp := mPop (.pointer (some ⟨p, 0, none⟩)) w4
  clear HD hS4 hp1 hp3 hp4
  go_wp2_with fail
  refine HP.out.mono ?_
  rintro e w5 ⟨rfl, hS5⟩
  replace hS5 := Lib.hid hS5
  go_wp2_with fail
  go_ret
  exact ⟨rfl, hS5.out⟩
end Go.Proofs.Ytbfkkghbkpbhlaa
