/-
  The reference's Acyclic and Without; copies of edges. No condition beside a list that can be read.
-/
import Derived.Test.YthbamhfnemdebaaWFd
namespace Go.Proofs.Ythbamhfnemdebaa
open Go.RowKit
theorem acyclicR_any (v : Value) (L : List Ed) (w : World) (hv : RL w v 2 L.length (L.flatMap Ed.cells)) (hl : L.length ≤ 900) :
    Calls Try.prog 13 #[v] w fun e w' => e = .returned (.bool !(cyc L).2) ∧ Below w.heap.size w w' := by
  have HC := Lib.hid (cycleR_any v L w hv hl)
  clear hv
  go_enter Try.func13, Try.ntmps13
  go_wp2_with fail
  refine HC.out.mono ?_
  rintro e w1 ⟨a, c, rfl, q⟩
  replace q := Lib.hid q
  clear HC
  go_wp2_with fail
  go_ret
  exact ⟨rfl, q.out.tail.gold⟩
set_option maxHeartbeats 4000000 in
theorem ownE_any (v : Value) (L : List Ed) (w : World) (hv : RL w v 2 L.length (L.flatMap Ed.cells)) (hl : L.length ≤ 1000) :
    Calls Try.prog 9 #[v] w fun e w' => ∃ a c, e = .returned (.slice a L.length c) ∧ Sep w' [vec 29 2 (.slice a L.length c) L.length (L.flatMap Ed.cells), old w] := by
  have h1 := Lib.hid (edcells_one L)
  obtain ⟨i0, hi, hz0, hz1, hz2⟩ := info_parts info_ed
  have hE := Lib.hid (fresh_ed w)
  have hS2 := Lib.hid (show SrcA (w.alloc (.cells #[] 29)) 2 v L.length (L.flatMap Ed.cells) from hv.srcA.below ((Below.refl _ _).alloc (Nat.le_refl _) _))
  obtain ⟨_, a, c, rfl, _⟩ := hv
  generalize L.length = n at *
  go_enter Try.func9, Try.ntmps9
  go_wp2_with (at_builtin; refine wpList_append_sep hE.out rfl _ _ 22 rfl i0 _ 16 Try.underlying22 hi hz0 hz1 hz2 rfl (by decide) rfl n (L.flatMap Ed.cells) hS2.out h1.out ?c3 ?c4 ?_)
  case c3 => simp only [maxLen]; omega
  case c4 => omega
  intro a' c' w1 hS1
  replace hS1 := Lib.hid hS1
  go_wp2_with fail
  go_ret
  exact ⟨a', c', rfl, hS1.out⟩
set_option maxHeartbeats 8000000 in
set_option maxRecDepth 100000 in
theorem withoutR_any (v : Value) (L : List Ed) (x : Int) (w : World) (hv : RL w v 2 L.length (L.flatMap Ed.cells)) (hl : L.length ≤ 1000) :
    Calls Try.prog 12 #[v, .int .i64 x] w fun e w' => ∃ a c, e = .returned (.slice a (keepL (onE x) L).length c) ∧ Sep w' [vec 29 2 (.slice a (keepL (onE x) L).length c) (keepL (onE x) L).length ((keepL (onE x) L).flatMap Ed.cells), old w] := by
  have hv2 := Lib.hid hv
  obtain ⟨_, va, vp, rfl, _⟩ := hv
  obtain ⟨n0, hn0⟩ : ∃ n0, L.length = n0 := ⟨_, rfl⟩
  rw [hn0] at hv2 hl ⊢
  replace hn0 := Lib.hid hn0
  obtain ⟨i0, hi0, hz0, hz1, hz2⟩ := info_parts info_ed
  have h1c : Hid (∀ x y, ∀ u ∈ ([.int .i64 x, .int .i64 y] : List Value), u.oneCell' = true) := Lib.hid (by simp [Value.oneCell'])
  have hV0 := Lib.hid ((Sep.start w).vec_nil 29 2)
  go_enter Try.func12, Try.ntmps12
  go_wp2_with fail
  go_loopg [5, 6] n0 (fun gm s5 s6 W => ∃ (i : Nat) (O : List Ed) (ao : Option Addr) (co n : Nat), i ≤ n0 ∧ gm = n0 - i ∧ s5 = .slice ao n co ∧ s6 = .int .i64 i ∧ Hid (O = keepL (onE x) (L.take i)) ∧ Hid (O.length = n) ∧ n ≤ i ∧ Hid (Sep W [vec 29 2 (.slice ao n co) n (O.flatMap Ed.cells), old w]))
  case atStart => exact ⟨0, [], none, 0, 0, Nat.zero_le _, rfl, rfl, rfl, Lib.hid rfl, Lib.hid rfl, Nat.le_refl _, hV0⟩
  case round =>
    clear hV0
    obtain ⟨i, O, ao, co, n, hi, hgm, rfl, rfl, hO, hOn, hni, hV⟩ := hrel
    by_cases hlt : i < n0
    · obtain ⟨b, off, rfl, hb, zz⟩ := cells_ed hv2.out hn0.out (by omega)
      have hil : i < L.length := by rw [hn0.out]; exact hlt
      have z0 := (hV.out.tail.gold.cell (p := ⟨b, off + i * 2, none⟩) hb).trans (zz i _ (List.getElem?_eq_getElem hil) 0 _ rfl)
      have z1 := (hV.out.tail.gold.cell (p := ⟨b, off + i * 2 + 1, none⟩) hb).trans (zz i _ (List.getElem?_eq_getElem hil) 1 _ rfl)
      have hO2 := Lib.hid (show keepL (onE x) (L.take (i + 1)) = O ++ (if onE x L[i] then [] else [L[i]]) by
        rw [List.take_succ_eq_append_getElem hil]
        unfold keepL at hO ⊢
        rw [List.filter_append, hO.out]
        cases h : onE x L[i] <;> simp [h])
      clear zz
      obtain ⟨e, he⟩ : ∃ e, L[i] = e := ⟨_, rfl⟩
      rw [he] at z0 z1 hO2
      clear he hil
      obtain ⟨f, t⟩ := e
      simp only at z0 z1
      have i1 : (0 : Int) ≤ (i : Int) := by omega
      have i2 : (i : Int) < (n0 : Int) := by omega
      have hms := Lib.hid (show n0 - (i + 1) < n0 - i by omega)
      have hon : onE x ⟨f, t⟩ = (f == x || t == x) := rfl
      rw [hon] at hO2
      clear hon
      by_cases h1 : f = x
      · subst h1
        rw [show (f == f || t == f) = true by simp, if_pos rfl, List.append_nil] at hO2
        go_wp2_with fail
        go_roundg (n0 - (i + 1))
        case measure => rw [hgm]; exact hms.out
        case rel => exact ⟨i + 1, O, ao, co, n, by omega, rfl, rfl, by go_num, Lib.hid hO2.out.symm, hOn, by omega, hV⟩
      · by_cases h2 : t = x
        · subst h2
          rw [show (f == t || t == t) = true by simp, if_pos rfl, List.append_nil] at hO2
          have e1 : (f == t) = false := by simp [h1]
          have e3 : (f != t) = true := by simp [h1]
          go_wp2_with fail
          go_roundg (n0 - (i + 1))
          case measure => rw [hgm]; exact hms.out
          case rel => exact ⟨i + 1, O, ao, co, n, by omega, rfl, rfl, by go_num, Lib.hid hO2.out.symm, hOn, by omega, hV⟩
        · have e1 : (f == x) = false := by simp [h1]
          have e2 : (t == x) = false := by simp [h2]
          have e3 : (f != x) = true := by simp [h1]
          have e4 : (t != x) = true := by simp [h2]
          rw [e1, e2, if_neg (by simp)] at hO2
          go_wp2_with (at_builtin; (refine wpList_append_sep (hV.out.allocG _) rfl _ _ 22 rfl i0 _ 16 Try.underlying22 hi0 hz0 hz1 hz2 rfl (by decide) rfl 1 [.int .i64 f, .int .i64 t] (srcA_cells _ _ _ _ 2 rfl) (h1c.out _ _) (by simp only [maxLen]; omega) (by omega) ?_; intro oa' oc' w5 q2; replace q2 := Lib.hid q2))
          go_roundg (n0 - (i + 1))
          case measure => rw [hgm]; exact hms.out
          case rel => exact ⟨i + 1, O ++ [⟨f, t⟩], oa', oc', n + 1, by omega, rfl, rfl, by go_num, Lib.hid hO2.out.symm, Lib.hid (by simp [hOn.out]), by omega, Lib.hid (by rw [List.flatMap_append]; exact q2.out)⟩
    · obtain rfl : i = n0 := by omega
      have hfn : O = keepL (onE x) L := by rw [hO.out, ← hn0.out, List.take_length]
      subst hfn
      have hOn2 := hOn.out
      subst hOn2
      have i2 : ¬ (i : Int) < (i : Int) := by omega
      go_wp2_with fail
      go_ret
      exact ⟨ao, co, rfl, hV.out⟩
end Go.Proofs.Ythbamhfnemdebaa
