/-
  A copy of names; the reference's Spread. No condition.
-/
import Derived.Test.YtgbffkjfjkfiaaaDoorStQ
namespace Go.Proofs.YtgbffkjfjkfiaaaDoor
open Go.RowKit
def ncells (l : List (Int × Int)) : List Value := l.flatMap fun x => [.int .i64 x.1, .int .i64 x.2]
theorem ncells_len (l : List (Int × Int)) : (ncells l).length = l.length * 2 := by
  induction l with
  | nil => rfl
  | cons x l ih =>
    have : ncells (x :: l) = [.int .i64 x.1, .int .i64 x.2] ++ ncells l := rfl
    rw [this, List.length_append, ih]
    simp
    omega
theorem ncells_at : ∀ (l : List (Int × Int)) (j : Nat), j < l.length → (ncells l)[j * 2]? = some (.int .i64 (l.getD j (0, 0)).1) ∧ (ncells l)[j * 2 + 1]? = some (.int .i64 (l.getD j (0, 0)).2)
  | [], j, h => absurd h (by simp)
  | x :: l, 0, _ => ⟨rfl, rfl⟩
  | x :: l, j + 1, h => by
    have ih := ncells_at l j (by simpa using h)
    have e : ncells (x :: l) = .int .i64 x.1 :: .int .i64 x.2 :: ncells l := rfl
    rw [e, show (j + 1) * 2 = j * 2 + 1 + 1 by omega]
    simpa [List.getD] using ih
theorem ncells_one (l : List (Int × Int)) : ∀ u ∈ ncells l, u.oneCell' = true := by
  intro u hu
  unfold ncells at hu
  obtain ⟨x, _, hx⟩ := List.mem_flatMap.1 hu
  simp at hx
  rcases hx with rfl | rfl <;> rfl
theorem rn_src {w : World} {a : Option Addr} {n c : Nat} {l : List (Int × Int)} (h : RN w (.slice a n c) l) (hn : l.length = n) (hna : a = none → c = 0) : SrcA w 2 (.slice a n c) n (ncells l) := by
  subst hn
  obtain ⟨a', c', hv, hr⟩ := h
  injection hv with e1 e2 e3
  subst e1 e3
  cases a with
  | none =>
    have h0 : l.length = 0 := by
      rcases Nat.eq_zero_or_pos l.length with h | h
      · exact h
      · obtain ⟨b, off, hb, _⟩ := hr h
        cases hb
    have hl := List.eq_nil_of_length_eq_zero h0
    subst hl
    exact .inl ⟨by rw [hna rfl]; rfl, rfl, rfl⟩
  | some ad =>
    refine .inr ⟨ad, c, rfl, ncells_len l, fun j u hu => ?_⟩
    have hj : j < l.length * 2 := by
      rcases Nat.lt_or_ge j (l.length * 2) with h | h
      · exact h
      · rw [List.getElem?_eq_none (by rw [ncells_len]; exact h)] at hu; cases hu
    obtain ⟨b, off, hb, _, hz⟩ := hr (by omega)
    injection hb with hb
    subst hb
    obtain ⟨z0, z1⟩ := hz (j / 2) (by omega)
    obtain ⟨y0, y1⟩ := ncells_at l (j / 2) (by omega)
    rw [Addr.add_lit]
    have h2 : j % 2 = 0 ∨ j % 2 = 1 := by omega
    rcases h2 with h | h
    · rw [show j / 2 * 2 = j by omega] at y0
      rw [y0] at hu
      rw [show off + j = off + j / 2 * 2 by omega, z0, ← hu]
    · rw [show j / 2 * 2 + 1 = j by omega] at y1
      rw [y1] at hu
      rw [show off + j = off + j / 2 * 2 + 1 by omega, z1, ← hu]
theorem rn_own {w : World} {a : Option Addr} {n c : Nat} {l : List (Int × Int)} {rs : List Res} (h : Sep w (vec 29 2 (.slice a n c) n (ncells l) :: rs)) (hn : l.length = n) : RN w (.slice a n c) l := by
  subst hn
  refine ⟨a, c, rfl, fun h0 => ?_⟩
  rcases h.gvec.2 with ⟨_, h1⟩ | ⟨g, cap, cur, hv, _⟩
  · omega
  · injection hv with e1 _ e3
    subst e1 e3
    have hl := (h.vec_cell (ncells_at l 0 h0).1).2.2
    refine ⟨g, 0, rfl, hl, fun j hj => ?_⟩
    obtain ⟨y0, y1⟩ := ncells_at l j hj
    have c0 := (h.vec_cell y0).1
    have c1 := (h.vec_cell y1).1
    rw [Nat.zero_add]
    exact ⟨c0, c1⟩
theorem info_name : (Tryd.prog.info? 29).map (fun i => (i.zero, i.size, i.bytes)) = some (some (.agg #[.int .i64 0, .int .i64 0]), 2, 16) := by kernel_rfl
theorem fresh_rowN (w : World) : Sep (w.alloc (.cells #[] 29)) [vec 29 2 (.slice (some ⟨w.heap.size, 0, none⟩) 0 0) 0 [], old w] :=
  (Sep.start w).vec_new (World.ownsRow_made w #[] 0 (Nat.le_refl _) (Nat.zero_le _) rfl) ((Below.refl _ _).alloc (Nat.le_refl _) _)
theorem ownN_any (a : Option Addr) (n c : Nat) (l : List (Int × Int)) (w : World) (hv : RN w (.slice a n c) l) (hn : l.length = n) (hna : a = none → c = 0) (hl : n ≤ 1000) :
    Calls Tryd.prog 21 #[.slice a n c] w fun e w' => ∃ a' c', e = .returned (.slice a' n c') ∧ RN w' (.slice a' n c') l ∧ Below w.heap.size w w' := by
  have hS := Lib.hid (rn_src hv hn hna)
  have h1 := Lib.hid (ncells_one l)
  obtain ⟨i0, hi, hz0, hz1, hz2⟩ := info_parts info_name
  have hE := Lib.hid (fresh_rowN w)
  have hS2 := Lib.hid (show SrcA (w.alloc (.cells #[] 29)) 2 (.slice a n c) n (ncells l) from hS.out.below ((Below.refl _ _).alloc (Nat.le_refl _) _))
  clear hv hna hS
  replace hn := Lib.hid hn
  go_enter Tryd.func21, Tryd.ntmps21
  go_wp2_with (at_builtin; refine wpList_append_sep hE.out rfl _ _ 22 rfl i0 _ 16 Tryd.underlying22 hi hz0 hz1 hz2 rfl (by decide) rfl n (ncells l) hS2.out h1.out ?c3 ?c4 ?_)
  case c3 => simp only [maxLen]; omega
  case c4 => omega
  intro a' c' w1 hS1
  try simp only [Nat.zero_add, List.nil_append] at hS1
  replace hS1 := Lib.hid hS1
  go_wp2_with fail
  go_ret
  exact ⟨a', c', by simp, rn_own hS1.out hn.out, hS1.out.tail.gold⟩
theorem spreadR_no (v : Value) (s : Int) (w : World) (hs : ¬(1 ≤ s ∧ s ≤ 16)) : Calls Tryd.prog 22 #[v, .int .i64 s] w fun e w' => e = .returned (.slice none 0 0) ∧ w = w' := by
  have h3 : s < 1 ∨ (¬ s < 1 ∧ 16 < s) := by omega
  clear hs
  rcases h3 with h3 | ⟨h3, h4⟩
  all_goals
    go_enter Tryd.func22, Tryd.ntmps22
    go_wp2_with fail
    go_ret
    exact ⟨rfl, rfl⟩
set_option maxHeartbeats 1000000 in
theorem spreadR_any (v : Value) (z : List (Int × Int)) (s : Nat) (h1 : 1 ≤ s) (h2 : s ≤ 16) (w : World) (hv : RN w v z) (hl : z.length ≤ 100) :
    Calls Tryd.prog 22 #[v, .int .i64 s] w fun e w' => ∃ g, e = .returned (.slice (some ⟨g, 0, none⟩) s s) ∧ Sep w' [vi (.slice (some ⟨g, 0, none⟩) s s) (cntL z s s), old w] := by
  obtain ⟨i0, hi, hz0, hz1, hz2⟩ := info_parts info_intS
  have hmk := fun W => run_make_rowN (P := Tryd.prog) 25 3 i0 _ Tryd.underlying25 hi hz0 .i64 .i64 s s (Nat.le_refl _) (by rw [hz2]; omega) (by omega) W
  rw [hz1] at hmk
  clear hi hz0 hz1 hz2
  have hS := Lib.hid ((Sep.start w).vi_new s (by omega))
  obtain ⟨a, c, rfl, hr⟩ := hv
  have HR := Lib.hid hr
  clear hr
  generalize hn : z.length = n at *
  replace hn := Lib.hid hn
  obtain ⟨g, hg⟩ : ∃ g, g = w.heap.size := ⟨_, rfl⟩
  rw [← hg] at hS
  go_enter Tryd.func22, Tryd.ntmps22
  go_wp2_with fail
  rw [← hg]
  replace hg := Lib.hid hg
  clear hmk
  go_loopw [6] (fun i wr => ∃ k : Nat, k ≤ n ∧ i = .int .i64 k ∧ Hid (Sep wr [vi (.slice (some ⟨g, 0, none⟩) s s) (cntL (z.take k) s s), old w])) (fun i _ => n - (intOf i).toNat)
  case atStart => exact ⟨0, Nat.zero_le _, rfl, by rw [List.take_zero, cntL_nil]; exact hS⟩
  case round =>
    clear hS
    obtain ⟨k, hk, rfl, hS⟩ := hrel
    by_cases hlt : k < n
    · obtain ⟨b, off, rfl, hbl, hz⟩ := HR.out (by omega)
      obtain ⟨z0, z1⟩ := hz k hlt
      rw [← hS.out.tail.gold.cell (p := ⟨b, off + k * 2, none⟩) hbl] at z0
      rw [← hS.out.tail.gold.cell (p := ⟨b, off + k * 2 + 1, none⟩) hbl] at z1
      have E := Lib.hid (take_snocN z k (by rw [hn.out]; exact hlt))
      have hcl := cntL_le (z.take k) s s
      have htl : (z.take k).length ≤ 100 := by rw [List.length_take]; omega
      generalize z.getD k (0, 0) = x at *
      clear hz HR
      obtain ⟨t, r⟩ := x
      have i1 : (0 : Int) ≤ (k : Int) := by omega
      have i2 : (k : Int) < (n : Int) := by omega
      simp only at z0 z1
      have HO := Lib.hid (fun W => ofR_any t r s W)
      have hbd := ofV_bd t r s
      by_cases ho : ofV t r s < 0
      · have EC := Lib.hid (show cntL (z.take (k + 1)) s s = cntL (z.take k) s s by rw [E.out]; exact cnt_miss _ (t, r) _ _ ho)
        generalize ofV t r s = o at *
        clear hbd hcl htl
        go_wp2_with fail
        refine (HO.out _).mono ?_
        rintro e w2 ⟨rfl, b2⟩
        replace hS := Lib.hid (hS.out.below b2)
        clear b2
        go_wp2_with fail
        go_roundw
        case rel => exact ⟨k + 1, by omega, by go_num, by rw [EC.out]; exact hS⟩
        case measure => simp [intOf]; omega
      · obtain ⟨j, hj⟩ : ∃ j : Nat, ofV t r s = (j : Int) := ⟨(ofV t r s).toNat, by omega⟩
        have hjs : j < s := by omega
        have EC := Lib.hid (show cntL (z.take (k + 1)) s s = (cntL (z.take k) s s).set j ((cntL (z.take k) s s).getD j 0 + 1) by rw [E.out]; exact cnt_hit _ (t, r) _ _ j hj hjs)
        rw [hj] at HO
        clear ho hbd hj
        replace hcl := hcl j
        go_wp2_with fail
        refine (HO.out _).mono ?_
        rintro e w2 ⟨rfl, b2⟩
        replace hS := Lib.hid (hS.out.below b2)
        clear b2
        obtain ⟨g', hg', hgl, q, fz⟩ := hS.out.vi_at (cntL_len _ _ _) hjs
        injection hg' with hg'
        injection hg' with hg'
        subst hg'
        have hlen := Lib.hid (cntL_len (z.take k) s s)
        generalize cntL (z.take k) s s = L at *
        replace hS := Lib.hid (hS.out.vi_set hlen.out hjs (L.getD j 0 + 1))
        generalize L.getD j 0 = y at *
        have j1 : (0 : Int) ≤ (j : Int) := by omega
        have j2 : (j : Int) < (s : Int) := by omega
        go_wp2_with fail
        go_roundw
        case rel => exact ⟨k + 1, by omega, by go_num, by rw [EC.out]; exact hS⟩
        case measure => simp [intOf]; omega
    · have hk2 : k = n := by omega
      have E := Lib.hid (show z.take k = z from List.take_of_length_le (by rw [hn.out]; omega))
      go_wp2_with fail
      go_ret
      exact ⟨g, rfl, by rw [← E.out]; exact hS.out⟩
end Go.Proofs.YtgbffkjfjkfiaaaDoor
