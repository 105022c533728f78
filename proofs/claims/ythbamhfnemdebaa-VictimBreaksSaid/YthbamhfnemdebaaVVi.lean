/-
  The program's Victims. No condition beside lists that can be read.
-/
import Derived.Test.YthbamhfnemdebaaVCh
namespace Go.Proofs.Ythbamhfnemdebaa
open Go.RowKit
theorem maxL_mem (c : Int → Int → Int) : ∀ (xs : List Int) (m : Int), maxL c xs m = m ∨ maxL c xs m ∈ xs
  | [], _ => .inl rfl
  | x :: xs, m => by
    have e : maxL c (x :: xs) m = maxL c xs (if c x m > 0 then x else m) := rfl
    rw [e]
    rcases maxL_mem c xs (if c x m > 0 then x else m) with h | h
    · rw [h]
      split
      · exact .inr (List.mem_cons_self ..)
      · exact .inl rfl
    · exact .inr (List.mem_cons_of_mem _ h)
theorem gtL_mem (c : Int → Int → Int) (xs : List Int) (h : 0 < xs.length) : gtL c xs ∈ xs := by
  cases xs with
  | nil => simp at h
  | cons x xs =>
    rcases maxL_mem c xs x with h | h
    · show maxL c xs x ∈ _
      rw [h]; exact List.mem_cons_self ..
    · exact List.mem_cons_of_mem _ h
/-- The victim of what the edges' first cycle is. -/
def vc (A : List Ag) (L : List Ed) : Int := chL A (cyc L).1
theorem vc_mem (A : List Ag) (L : List Ed) (h : (cyc L).2 = true) : vc A L ∈ (cyc L).1 := by
  rw [cyc_ok] at h
  exact gtL_mem _ _ (by simpa using h)
theorem cyc_has (L : List Ed) (c : Int) (h : c ∈ (cyc L).1) : ∃ t, ⟨c, t⟩ ∈ L := by
  obtain ⟨i, hi, he⟩ := List.mem_iff_getElem.1 h
  have h2 := cyc_edge L i hi
  have e : (cyc L).1.getD i 0 = c := by simp [List.getD, hi, he]
  rw [e] at h2
  exact ⟨_, h2⟩
theorem keepL_lt (A : List Ag) (L : List Ed) (h : (cyc L).2 = true) : (keepL (onE (vc A L)) L).length < L.length := by
  obtain ⟨t, ht⟩ := cyc_has L _ (vc_mem A L h)
  unfold keepL
  exact List.length_filter_lt_length_iff_exists.2 ⟨_, ht, by simp [onE]⟩
def vicF (A : List Ag) : Nat → List Ed → List Int
  | 0, _ => []
  | f + 1, L => if (cyc L).2 then vc A L :: vicF A f (keepL (onE (vc A L)) L) else []
theorem vicF_enough (A : List Ag) : ∀ (f g : Nat) (L : List Ed), L.length < f → L.length < g → vicF A f L = vicF A g L
  | 0, _, _, h, _ => by omega
  | _ + 1, 0, _, _, h => by omega
  | f + 1, g + 1, L, h1, h2 => by
    unfold vicF
    by_cases hc : (cyc L).2 = true
    · have := keepL_lt A L hc
      rw [if_pos hc, if_pos hc, vicF_enough A f g _ (by omega) (by omega)]
    · rw [if_neg hc, if_neg hc]
/-- What Victims tells. -/
def vic (A : List Ag) (L : List Ed) : List Int := vicF A (L.length + 1) L
theorem vic_no (A : List Ag) (L : List Ed) (h : (cyc L).2 = false) : vic A L = [] := by
  unfold vic vicF
  rw [h]
  rfl
theorem vic_yes (A : List Ag) (L : List Ed) (h : (cyc L).2 = true) : vic A L = vc A L :: vic A (keepL (onE (vc A L)) L) := by
  have hl := keepL_lt A L h
  unfold vic
  rw [show vicF A (L.length + 1) L = vc A L :: vicF A L.length (keepL (onE (vc A L)) L) by conv => lhs; unfold vicF; rw [if_pos h]]
  rw [vicF_enough A L.length _ _ hl (Nat.lt_succ_self _)]
theorem cycL_len (L : List Ed) : (cyc L).1.length ≤ L.length + 1 := cycG_len L _
set_option maxHeartbeats 4000000 in
set_option maxRecDepth 100000 in
theorem victims_any (u v : Value) (L : List Ed) (A : List Ag) (w : World) (hu : RL w u 2 L.length (L.flatMap Ed.cells)) (hl : L.length ≤ 500) (hv : RL w v 2 A.length (A.flatMap Ag.cells)) (hA : A.length ≤ 1000) :
    Calls Try.prog 8 #[u, v] w fun e w' => ∃ a c, e = .returned (.slice a (vic A L).length c) ∧ Sep w' [vec 3 1 (.slice a (vic A L).length c) (vic A L).length ((vic A L).map (Value.int .i64)), old w] := by
  have HV := Lib.hid hv
  have HU := Lib.hid hu
  obtain ⟨i0, hi0, hz0, hz1, hz2⟩ := info_parts info_int
  obtain ⟨V, hVic⟩ : ∃ V, Hid (vic A L = V) := ⟨_, rfl⟩
  have h1c : Hid (∀ y, ∀ u ∈ ([.int .i64 y] : List Value), u.oneCell' = true) := Lib.hid (by simp [Value.oneCell'])
  have hV0 := Lib.hid (((Sep.gprop (p := True)).2 ⟨trivial, Sep.start w⟩).vec_nil 3 1)
  rw [hVic.out]
  clear hu hv
  go_enter Try.func8, Try.ntmps8
  go_wp2_with fail
  go_loopg [0, 5] L.length (fun gm s0 s5 W => ∃ (sv : Value) (L2 : List Ed) (o : List Int) (ao : Option Addr) (co : Nat) (R : Res), sv = s0 ∧ gm = L2.length ∧ s5 = .slice ao o.length co ∧ Hid (V = o ++ vic A L2) ∧ o.length + L2.length ≤ L.length ∧ Hid (∀ W rs, Sep W (R :: old w :: rs) → RL W sv 2 L2.length (L2.flatMap Ed.cells)) ∧ Hid (Sep W [vec 3 1 (.slice ao o.length co) o.length (o.map (Value.int .i64)), R, old w]))
  case atStart => exact ⟨u, L, [], none, 0, prop True, rfl, rfl, rfl, Lib.hid (by rw [← hVic.out]; rfl), by simp, Lib.hid (fun W rs h => HU.out.below h.tail.gold), hV0⟩
  case round =>
    clear hV0
    obtain ⟨sv, L2, o, ao, co, R, rfl, hgm, rfl, hE, hol, hR, hV⟩ := hrel
    have HC := Lib.hid (cycle_any sv L2 wr (hR.out _ _ hV.out.to2.to2) (by omega))
    cases hc : (cyc L2).2 with
    | false =>
      rw [hc] at HC
      rw [vic_no A L2 hc, List.append_nil] at hE
      go_wp2_with fail
      refine HC.out.mono ?_
      rintro e w2 ⟨ca, cp, rfl, q⟩
      replace hV := Lib.hid (q.graft hV.out)
      clear q HC
      go_wp2_with fail
      go_ret
      rw [hE.out]
      exact ⟨ao, co, rfl, hV.out.tail.drop1⟩
    | true =>
      have hvy := Lib.hid (vic_yes A L2 hc)
      have hlt := keepL_lt A L2 hc
      have hok := cyc_ok L2
      rw [hc] at HC hok
      have hcl := cycL_len L2
      have hvc : vc A L2 = chL A (cyc L2).1 := rfl
      rw [hvy.out] at hE
      rw [hvc] at hlt hE
      clear hc hvy hvc
      generalize (cyc L2).1 = xs at *
      have HW := Lib.hid (fun W h => without_any sv L2 (chL A xs) W h (by omega))
      have HCh := Lib.hid (fun u W h1 h2 => choose_any u v xs A W h1 (by omega) h2 hA)
      rw [← hok] at HCh
      generalize chL A xs = c at *
      obtain ⟨nx, hnx⟩ : ∃ nx, Hid (xs.length = nx) := ⟨_, rfl⟩
      rw [hnx.out] at HC
      clear hok hcl
      go_wp2_with fail
      refine HC.out.mono ?_
      rintro e w2 ⟨ca, cp, rfl, q⟩
      replace hV := Lib.hid (q.graft hV.out)
      clear q HC
      go_wp2_with fail
      refine (HCh.out _ _ hV.out.vec_ri (HV.out.below (hV.out.bring 3 rfl).gold)).mono ?_
      rintro e w3 ⟨rfl, q⟩
      replace hV := Lib.hid (hV.out.below q).tail
      clear q HCh
      go_wp2_with (at_builtin; refine wpList_append_sep (hV.out.allocG _) rfl _ _ 25 rfl i0 _ 8 Try.underlying25 hi0 hz0 hz1 hz2 rfl (by decide) rfl 1 [.int .i64 c] (SrcA.one _ _ _ _) (h1c.out _) (by simp only [maxLen]; omega) (by omega) ?_; intro oa' oc' w4 q2; replace q2 := Lib.hid q2)
      refine (HW.out _ (hR.out _ _ q2.out.to2.to2)).mono ?_
      rintro e w5 ⟨wa, wc, rfl, q⟩
      replace hV := Lib.hid (q.graft q2.out)
      clear q q2 HW
      go_wp2_with fail
      go_roundg (keepL (onE c) L2).length
      case measure => omega
      case rel => exact ⟨_, keepL (onE c) L2, o ++ [c], oa', oc', vec 29 2 (.slice wa (keepL (onE c) L2).length wc) (keepL (onE c) L2).length ((keepL (onE c) L2).flatMap Ed.cells), rfl, rfl, by simp, Lib.hid (by rw [hE.out]; simp), by simp; omega, Lib.hid (fun W rs h => h.vec_rl), Lib.hid (by have h := hV.out.drop2.to1; simpa using h)⟩
end Go.Proofs.Ythbamhfnemdebaa
