/-
  The program's Reach. No condition beside a list that can be read.
-/
import Derived.Test.YtcnkmhfcgkbhbaaWWo
import Derived.Shelf.Slices.In.SortNone
namespace Go.Proofs.Ytcnkmhfcgkbhbaa
open Go.RowKit
theorem tgts_addE (R : List (Int × List Int)) (e : Ed) : (tgts (addE R e)).length = (tgts R).length + 1 := by
  unfold addE
  split
  · simp [tgts]
  · split
    · simp [tgts] <;> omega
    · simp [tgts] <;> omega
theorem tgts_fold : ∀ (S : List Ed) (R : List (Int × List Int)), (tgts (S.foldl addE R)).length = (tgts R).length + S.length
  | [], R => by simp
  | e :: S, R => by
    rw [List.foldl_cons, tgts_fold S, tgts_addE]
    simp only [List.length_cons]
    omega
theorem tgts_nx (L : List Ed) : (tgts (nxL L)).length ≤ L.length := by
  unfold nxL
  rw [tgts_fold]
  have := sdE_len L
  simp only [tgts, List.flatMap_nil, List.length_nil]
  omega
def srI (xs : List Int) : List Int := xs.mergeSort fun x y => decide (x ≤ y)
theorem srI_len (xs : List Int) : (srI xs).length = xs.length := (List.mergeSort_perm xs _).length_eq
theorem sortI_any (a : Option Addr) (n c : Nat) (xs : List Int) (w : World) (rs : List Res) (hS : Sep w (vec 3 1 (.slice a n c) n (xs.map (Value.int .i64)) :: rs)) (hl : xs.length = n) (hn : n ≤ 1000000) :
    Calls Try.prog 35 #[.slice a n c] w fun e w' => e = .returned (.tuple #[]) ∧ Sep w' (vec 3 1 (.slice a n c) n ((srI xs).map (Value.int .i64)) :: rs) := by
  by_cases h0 : 0 < n
  · exact sortPlain_any a n c xs w rs hS hl h0 hn
  · obtain rfl : n = 0 := by omega
    obtain rfl := List.eq_nil_of_length_eq_zero hl
    refine Calls.mono (show Calls Try.prog 35 _ w _ from Any.slices_Sort_int_none Try.sortPlain a c w) ?_
    rintro e w' ⟨rfl, rfl⟩
    exact ⟨rfl, by simpa [srI] using hS⟩
set_option maxHeartbeats 4000000 in
theorem reach_any (v : Value) (L : List Ed) (from_ : Int) (w : World) (hv : RL w v 2 L.length (L.flatMap Ed.cells)) (hl : L.length ≤ 1000) :
    Calls Try.prog 15 #[v, .int .i64 from_] w fun e w' => ∃ a c bk, e = .returned (.slice a bk.length c) ∧ (∃ s, ∀ f, bfs (nxL L) (s + f) [] [from_] = bk) ∧ bk.length ≤ L.length ∧
      Sep w' [vec 3 1 (.slice a bk.length c) bk.length ((srI (bk.map (·.1))).map (Value.int .i64)), old w] := by
  have HN := Lib.hid (nexts_any v L w hv hl)
  have htg := tgts_nx L
  clear hv
  go_enter Try.func15, Try.ntmps15
  go_wp2_with fail
  refine HN.out.mono ?_
  rintro e w1 ⟨b, es, R, rfl, hR, hN, hV⟩
  have HW := Lib.hid (ways_any b es R from_ w1 [old w] hV hN (by rw [hR]; omega))
  rw [hR] at HW
  clear HN hN hV hR
  go_wp2_with fail
  refine HW.out.mono ?_
  rintro e w2 ⟨mb, a, c, bk, rfl, hb, hbl, hV⟩
  rw [show bcells bk = (bk.map (·.1)).map (Value.int .i64) by simp [bcells]] at hV
  have HS := Lib.hid (sortI_any a bk.length c (bk.map (·.1)) w2 _ hV.to1 (by simp) (by omega))
  replace hb := Lib.hid hb
  clear HW hV
  go_wp2_with fail
  refine HS.out.mono ?_
  rintro e w3 ⟨rfl, hV⟩
  replace hV := Lib.hid hV
  clear HS
  go_wp2_with fail
  go_ret
  exact ⟨a, c, bk, rfl, hb.out, by omega, hV.out.drop1.drop1.drop1⟩
end Go.Proofs.Ytcnkmhfcgkbhbaa
