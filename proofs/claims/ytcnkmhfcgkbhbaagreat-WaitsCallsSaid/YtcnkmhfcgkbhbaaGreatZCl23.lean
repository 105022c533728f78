/-
  Contracts and plain laws that the walk leans on, part 23. No condition.
-/
import Derived.Test.YtcnkmhfcgkbhbaaGreatZCl22
namespace Go.Proofs.YtcnkmhfcgkbhbaaGreat
open Go.RowKit
theorem acyclicR_any (v : Value) (L : List Ed) (w : World) (hv : RL w v 2 L.length (L.flatMap Ed.cells)) (hl : L.length ≤ 900) :
    Calls Tryz.prog 10 #[v] w fun e w' => e = .returned (.bool !(cyc L).2) ∧ Below w.heap.size w w' := by
  have HC := Lib.hid (cycleR_any v L w hv hl)
  clear hv
  go_enter Tryz.func10, Tryz.ntmps10
  go_wp2_with fail
  refine HC.out.mono ?_
  rintro e w1 ⟨a, c, rfl, q⟩
  replace q := Lib.hid q
  clear HC
  go_wp2_with fail
  go_ret
  exact ⟨rfl, q.out.tail.gold⟩
set_option maxHeartbeats 4000000 in
theorem ownE_any (v : Value) (L : List Ed) (w : World) (hv : RL w v 2 L.length (L.flatMap Ed.cells)) (hl : L.length ≤ 1000) :
    Calls Tryz.prog 6 #[v] w fun e w' => ∃ a c, e = .returned (.slice a L.length c) ∧ Sep w' [vec 30 2 (.slice a L.length c) L.length (L.flatMap Ed.cells), old w] := by
  have h1 := Lib.hid (edcells_one L)
  obtain ⟨i0, hi, hz0, hz1, hz2⟩ := info_parts info_ed
  have hE := Lib.hid (fresh_ed w)
  have hS2 := Lib.hid (show SrcA (w.alloc (.cells #[] 30)) 2 v L.length (L.flatMap Ed.cells) from hv.srcA.below ((Below.refl _ _).alloc (Nat.le_refl _) _))
  obtain ⟨_, a, c, rfl, _⟩ := hv
  generalize L.length = n at *
  go_enter Tryz.func6, Tryz.ntmps6
  go_wp2_with (at_builtin; refine wpList_append_sep hE.out rfl _ _ 23 rfl i0 _ 16 Tryz.underlying23 hi hz0 hz1 hz2 rfl (by decide) rfl n (L.flatMap Ed.cells) hS2.out h1.out ?c3 ?c4 ?_)
  case c3 => simp only [maxLen]; omega
  case c4 => omega
  intro a' c' w1 hS1
  replace hS1 := Lib.hid hS1
  go_wp2_with fail
  go_ret
  exact ⟨a', c', rfl, hS1.out⟩
set_option maxHeartbeats 8000000 in
set_option maxRecDepth 100000 in
theorem withoutR_any (v : Value) (L : List Ed) (x : Int) (w : World) (hv : RL w v 2 L.length (L.flatMap Ed.cells)) (hl : L.length ≤ 1000) :
    Calls Tryz.prog 17 #[v, .int .i64 x] w fun e w' => ∃ a c, e = .returned (.slice a (keepL (onE x) L).length c) ∧ Sep w' [vec 30 2 (.slice a (keepL (onE x) L).length c) (keepL (onE x) L).length ((keepL (onE x) L).flatMap Ed.cells), old w] := by
  have hv2 := Lib.hid hv
  obtain ⟨_, va, vp, rfl, _⟩ := hv
  obtain ⟨n0, hn0⟩ : ∃ n0, L.length = n0 := ⟨_, rfl⟩
  rw [hn0] at hv2 hl ⊢
  replace hn0 := Lib.hid hn0
  obtain ⟨i0, hi0, hz0, hz1, hz2⟩ := info_parts info_ed
  have h1c : Hid (∀ x y, ∀ u ∈ ([.int .i64 x, .int .i64 y] : List Value), u.oneCell' = true) := Lib.hid (by simp [Value.oneCell'])
  have hV0 := Lib.hid ((Sep.start w).vec_nil 30 2)
  go_enter Tryz.func17, Tryz.ntmps17
  go_wp2_with fail
  go_loopg [5, 6] n0 (fun gm s5 s6 W => ∃ (i : Nat) (O : List Ed) (ao : Option Addr) (co n : Nat), i ≤ n0 ∧ gm = n0 - i ∧ s5 = .slice ao n co ∧ s6 = .int .i64 i ∧ Hid (O = keepL (onE x) (L.take i)) ∧ Hid (O.length = n) ∧ n ≤ i ∧ Hid (Sep W [vec 30 2 (.slice ao n co) n (O.flatMap Ed.cells), old w]))
  case atStart => exact ⟨0, [], none, 0, 0, Nat.zero_le _, rfl, rfl, rfl, Lib.hid rfl, Lib.hid rfl, Nat.le_refl _, hV0⟩
  case round =>
    clear hV0
    obtain ⟨i, O, ao, co, n, hi, hgm, rfl, rfl, hO, hOn, hni, hV⟩ := hrel
    by_cases hlt : i < n0
    · obtain ⟨b, off, rfl, hb, zz⟩ := cells_ed hv2.out hn0.out (by omega)
      have hil : i < L.length := by rw [hn0.out]; exact hlt
      have z0 := (hV.out.tail.gold.cell (p := ⟨b, off + i * 2, none⟩) hb).trans (zz i _ (List.getElem?_eq_getElem hil) 0 _ rfl)
      have z1 := (hV.out.tail.gold.cell (p := ⟨b, off + i * 2 + 1, none⟩) hb).trans (zz i _ (List.getElem?_eq_getElem hil) 1 _ rfl)
      have hO2 := Lib.hid (show keepL (onE x) (L.take (i + 1)) = O ++ (if onE x L[i] then [] else [L[i]]) by
        rw [List.take_succ_eq_append_getElem hil]
        unfold keepL at hO ⊢
        rw [List.filter_append, hO.out]
        cases h : onE x L[i] <;> simp [h])
      clear zz
      obtain ⟨e, he⟩ : ∃ e, L[i] = e := ⟨_, rfl⟩
      rw [he] at z0 z1 hO2
      clear he hil
      obtain ⟨f, t⟩ := e
      simp only at z0 z1
      have i1 : (0 : Int) ≤ (i : Int) := by omega
      have i2 : (i : Int) < (n0 : Int) := by omega
      have hms := Lib.hid (show n0 - (i + 1) < n0 - i by omega)
      have hon : onE x ⟨f, t⟩ = (f == x || t == x) := rfl
      rw [hon] at hO2
      clear hon
      by_cases h1 : f = x
      · subst h1
        rw [show (f == f || t == f) = true by simp, if_pos rfl, List.append_nil] at hO2
        go_wp2_with fail
        go_roundg (n0 - (i + 1))
        case measure => rw [hgm]; exact hms.out
        case rel => exact ⟨i + 1, O, ao, co, n, by omega, rfl, rfl, by go_num, Lib.hid hO2.out.symm, hOn, by omega, hV⟩
      · by_cases h2 : t = x
        · subst h2
          rw [show (f == t || t == t) = true by simp, if_pos rfl, List.append_nil] at hO2
          have e1 : (f == t) = false := by simp [h1]
          have e3 : (f != t) = true := by simp [h1]
          go_wp2_with fail
          go_roundg (n0 - (i + 1))
          case measure => rw [hgm]; exact hms.out
          case rel => exact ⟨i + 1, O, ao, co, n, by omega, rfl, rfl, by go_num, Lib.hid hO2.out.symm, hOn, by omega, hV⟩
        · have e1 : (f == x) = false := by simp [h1]
          have e2 : (t == x) = false := by simp [h2]
          have e3 : (f != x) = true := by simp [h1]
          have e4 : (t != x) = true := by simp [h2]
          rw [e1, e2, if_neg (by simp)] at hO2
          go_wp2_with (at_builtin; (refine wpList_append_sep (hV.out.allocG _) rfl _ _ 23 rfl i0 _ 16 Tryz.underlying23 hi0 hz0 hz1 hz2 rfl (by decide) rfl 1 [.int .i64 f, .int .i64 t] (srcA_cells _ _ _ _ 2 rfl) (h1c.out _ _) (by simp only [maxLen]; omega) (by omega) ?_; intro oa' oc' w5 q2; replace q2 := Lib.hid q2))
          go_roundg (n0 - (i + 1))
          case measure => rw [hgm]; exact hms.out
          case rel => exact ⟨i + 1, O ++ [⟨f, t⟩], oa', oc', n + 1, by omega, rfl, rfl, by go_num, Lib.hid hO2.out.symm, Lib.hid (by simp [hOn.out]), by omega, Lib.hid (by rw [List.flatMap_append]; exact q2.out)⟩
    · obtain rfl : i = n0 := by omega
      have hfn : O = keepL (onE x) L := by rw [hO.out, ← hn0.out, List.take_length]
      subst hfn
      have hOn2 := hOn.out
      subst hOn2
      have i2 : ¬ (i : Int) < (i : Int) := by omega
      go_wp2_with fail
      go_ret
      exact ⟨ao, co, rfl, hV.out⟩
end Go.Proofs.YtcnkmhfcgkbhbaaGreat
namespace Go.Proofs.YtcnkmhfcgkbhbaaGreat
open Go.RowKit
def lightH (hs : List Hv) (most : Nat) : Bool := decide (hs.length ≤ most) && hs.all fun x => decide (x.l.length ≤ 12)
theorem all_bad {α : Type} [Inhabited α] {p : α → Bool} {l : List α} {k : Nat} (hk : k < l.length) (h : p (l.getD k default) = false) : l.all p = false := by
  rw [List.all_eq_false]
  have e : l.getD k default = l[k] := by simp [List.getD, hk]
  rw [e] at h
  exact ⟨l[k], List.getElem_mem hk, by simp [h]⟩
theorem all_good {α : Type} [Inhabited α] {p : α → Bool} {l : List α} (h : ∀ k, k < l.length → p (l.getD k default) = true) : l.all p = true := by
  rw [List.all_eq_true]
  intro x hx
  obtain ⟨k, hk, rfl⟩ := List.getElem_of_mem hx
  have := h k hk
  simpa [List.getD, hk] using this
theorem all_at {α : Type} [Inhabited α] {p : α → Bool} {l : List α} (h : l.all p = true) {k : Nat} (hk : k < l.length) : p (l.getD k default) = true := by
  rw [List.all_eq_true] at h
  have e : l.getD k default = l[k] := by simp [List.getD, hk]
  rw [e]
  exact h _ (List.getElem_mem hk)
set_option maxHeartbeats 2000000 in
theorem light_any (u : Value) (hs : List Hv) (most : Nat) (w : World) (hv : HD w u hs) (hm : most ≤ 100) :
    Calls Tryz.prog 35 #[u, .int .i64 most] w fun e w' => e = .returned (.bool (lightH hs most)) ∧ w = w' := by
  obtain ⟨ua, uc, rfl, hr, hq⟩ := hv
  obtain ⟨n0, hn0⟩ : ∃ n0, hs.length = n0 := ⟨_, rfl⟩
  have hlb : ∀ k, k < hs.length → decide ((hs.getD k default).l.length ≤ 12) = false → lightH hs most = false := fun k hk h => by
    unfold lightH
    rw [all_bad (p := fun x : Hv => decide (x.l.length ≤ 12)) hk h, Bool.and_false]
  have hlg : hs.length ≤ most → (∀ k, k < hs.length → decide ((hs.getD k default).l.length ≤ 12) = true) → lightH hs most = true := fun h0 h => by
    unfold lightH
    rw [all_good (p := fun x : Hv => decide (x.l.length ≤ 12)) h, decide_eq_true h0]
    rfl
  have hl0 : ¬ hs.length ≤ most → lightH hs most = false := fun h => by
    unfold lightH
    rw [decide_eq_false h, Bool.false_and]
  rw [hn0] at hr hq hlb hlg hl0 ⊢
  replace hr := Lib.hid hr
  replace hq := Lib.hid hq
  replace hlb := Lib.hid hlb
  replace hlg := Lib.hid hlg
  clear hn0
  by_cases h0 : n0 ≤ most
  · have i0 : ¬ ((most : Int) < (n0 : Int)) := by omega
    replace hlg := Lib.hid (hlg.out h0)
    clear hl0
    go_enter Tryz.func35, Tryz.ntmps35
    go_wp2_with fail
    go_loopg [5] n0 (fun gm s5 W => ∃ k : Nat, k ≤ n0 ∧ gm = n0 - k ∧ s5 = .int .i64 k ∧ Hid (∀ j, j < k → decide ((hs.getD j default).l.length ≤ 12) = true) ∧ Hid (w = W))
    case atStart => exact ⟨0, Nat.zero_le _, rfl, rfl, Lib.hid (fun j h => absurd h (by omega)), Lib.hid rfl⟩
    case round =>
      obtain ⟨k, hk, hgm, rfl, hok, hW⟩ := hrel
      by_cases hlt : k < n0
      · obtain ⟨b, off, rfl, hb, hz⟩ := hr.out (by omega)
        obtain ⟨_, _, z2, _⟩ := hz k hlt
        have hRQ := hq.out k hlt
        have hbad := Lib.hid (hlb.out k hlt)
        have hokk := Lib.hid (fun (h : decide ((hs.getD k default).l.length ≤ 12) = true) j (hj : j < k + 1) => show decide ((hs.getD j default).l.length ≤ 12) = true from by
          rcases Nat.lt_or_ge j k with h1 | h1
          · exact hok.out j h1
          · obtain rfl : j = k := by omega
            exact h)
        obtain ⟨qa, qc, hqv, _⟩ := hRQ
        rw [hqv, hW.out] at z2
        clear hqv hz
        generalize (hs.getD k default).l.length = m at *
        have i1 : (0 : Int) ≤ (k : Int) := by omega
        have i2 : (k : Int) < (n0 : Int) := by omega
        by_cases h12 : m ≤ 12
        · have i12 : ¬ ((12 : Int) < (m : Int)) := by omega
          replace hokk := Lib.hid (hokk.out (decide_eq_true h12))
          clear hbad
          go_wp2_with fail
          go_roundg (n0 - (k + 1))
          case measure => omega
          case rel => exact ⟨k + 1, by omega, rfl, by go_num, hokk, hW⟩
        · have i12 : (12 : Int) < (m : Int) := by omega
          replace hbad := Lib.hid (hbad.out (decide_eq_false h12))
          go_wp2_with fail
          go_ret
          exact ⟨by rw [hbad.out]; rfl, hW.out⟩
      · obtain rfl : k = n0 := by omega
        have hg := Lib.hid (hlg.out hok.out)
        go_wp2_with fail
        go_ret
        exact ⟨by rw [hg.out]; rfl, hW.out⟩
  · have i0 : (most : Int) < (n0 : Int) := by omega
    have hg := Lib.hid (hl0 h0)
    clear hl0 hlg
    go_enter Tryz.func35, Tryz.ntmps35
    go_wp2_with fail
    go_ret
    exact ⟨by rw [hg.out]; rfl, rfl⟩
def rightH (hs : List Hv) (most : Nat) : Bool := lightH hs most && hs.all fun x => checkB x.n x.l
set_option maxHeartbeats 2000000 in
theorem right_any (u : Value) (hs : List Hv) (w : World) (hv : HD w u hs) :
    Calls Tryz.prog 18 #[u] w fun e w' => e = .returned (.bool (rightH hs 8)) ∧ Below w.heap.size w w' := by
  have HL := Lib.hid (light_any u hs 8 w hv (by omega))
  obtain ⟨ua, uc, rfl, hr, hq⟩ := hv
  obtain ⟨n0, hn0⟩ : ∃ n0, hs.length = n0 := ⟨_, rfl⟩
  cases hlh : lightH hs 8 with
  | false =>
    rw [hlh, hn0] at HL
    have hg : rightH hs 8 = false := by unfold rightH; rw [hlh]; rfl
    replace hg := Lib.hid hg
    rw [hn0]
    clear hlh hr hq
    go_enter Tryz.func18, Tryz.ntmps18
    go_wp2_with fail
    refine HL.out.mono ?_
    rintro e w1 ⟨rfl, rfl⟩
    go_wp2_with fail
    go_ret
    exact ⟨by rw [hg.out]; rfl, Below.refl _ _⟩
  | true =>
    have h8 : n0 ≤ 8 ∧ ∀ k, k < n0 → (hs.getD k default).l.length ≤ 12 := by
      unfold lightH at hlh
      rw [Bool.and_eq_true, decide_eq_true_eq] at hlh
      exact ⟨by omega, fun k hk => by simpa using all_at hlh.2 (k := k) (by omega)⟩
    have hlb : ∀ k, k < hs.length → checkB (hs.getD k default).n (hs.getD k default).l = false → rightH hs 8 = false := fun k hk h => by
      unfold rightH
      rw [all_bad (p := fun x : Hv => checkB x.n x.l) hk h, Bool.and_false]
    have hlg : (∀ k, k < hs.length → checkB (hs.getD k default).n (hs.getD k default).l = true) → rightH hs 8 = true := fun h => by
      unfold rightH
      rw [all_good (p := fun x : Hv => checkB x.n x.l) h, hlh]
      rfl
    rw [hlh] at HL
    rw [hn0] at HL hr hq hlb hlg ⊢
    replace hr := Lib.hid hr
    replace hq := Lib.hid hq
    replace hlb := Lib.hid hlb
    replace hlg := Lib.hid hlg
    obtain ⟨h8, h12⟩ := h8
    replace h12 := Lib.hid h12
    clear hn0 hlh
    go_enter Tryz.func18, Tryz.ntmps18
    go_wp2_with fail
    refine HL.out.mono ?_
    rintro e w1 ⟨rfl, rfl⟩
    clear HL
    go_wp2_with fail
    go_loopg [3] n0 (fun gm s3 W => ∃ k : Nat, k ≤ n0 ∧ gm = n0 - k ∧ s3 = .int .i64 k ∧ Hid (∀ j, j < k → checkB (hs.getD j default).n (hs.getD j default).l = true) ∧ Hid (Below w.heap.size w W))
    case atStart => exact ⟨0, Nat.zero_le _, rfl, rfl, Lib.hid (fun j h => absurd h (by omega)), Lib.hid (Below.refl _ _)⟩
    case round =>
      obtain ⟨k, hk, hgm, rfl, hok, hW⟩ := hrel
      by_cases hlt : k < n0
      · obtain ⟨b, off, rfl, hb, hz⟩ := hr.out (by omega)
        obtain ⟨z0, z1, z2, z3⟩ := hz k hlt
        have kk : ∀ o, wr.cell? ⟨b, o, none⟩ = w.cell? ⟨b, o, none⟩ := fun o => hW.out.cell (p := ⟨b, o, none⟩) hb
        rw [← kk] at z0 z1 z2 z3
        have hRQ := hq.out k hlt
        have hx12 := h12.out k hlt
        have hbad := Lib.hid (hlb.out k hlt)
        have hokk := Lib.hid (fun (h : checkB (hs.getD k default).n (hs.getD k default).l = true) j (hj : j < k + 1) => show checkB (hs.getD j default).n (hs.getD j default).l = true from by
          rcases Nat.lt_or_ge j k with h1 | h1
          · exact hok.out j h1
          · obtain rfl : j = k := by omega
            exact h)
        clear hz kk
        generalize hs.getD k default = x at *
        obtain ⟨t, r, nw, v, l⟩ := x
        simp only at z0 z1 z2 z3 hRQ hx12 hbad hokk
        have HC := Lib.hid (checkR_any t r nw v l wr (hRQ.below hW.out) (by omega))
        obtain ⟨qa, qc, rfl, _⟩ := hRQ
        generalize hcb : checkB nw l = cb at *
        replace hcb := Lib.hid hcb
        generalize l.length = m at *
        have i1 : (0 : Int) ≤ (k : Int) := by omega
        have i2 : (k : Int) < (n0 : Int) := by omega
        unfold hval at HC
        cases cb with
        | true =>
          rw [if_pos rfl] at HC
          replace hokk := Lib.hid (hokk.out rfl)
          clear hbad
          go_wp2_with fail
          refine HC.out.mono ?_
          rintro e w2 ⟨rfl, b2⟩
          replace hW := Lib.hid (belT hW.out b2)
          clear b2 HC z0 z1 z2 z3
          go_wp2_with fail
          go_roundg (n0 - (k + 1))
          case measure => omega
          case rel => exact ⟨k + 1, by omega, rfl, by go_num, hokk, hW⟩
        | false =>
          rw [if_neg (by decide)] at HC
          replace hbad := Lib.hid (hbad.out rfl)
          go_wp2_with fail
          refine HC.out.mono ?_
          rintro e w2 ⟨rfl, b2⟩
          replace hW := Lib.hid (belT hW.out b2)
          clear b2 HC z0 z1 z2 z3
          go_wp2_with fail
          go_ret
          exact ⟨by rw [hbad.out]; rfl, hW.out⟩
      · obtain rfl : k = n0 := by omega
        have hg := Lib.hid (hlg.out hok.out)
        go_wp2_with fail
        go_ret
        exact ⟨by rw [hg.out]; rfl, hW.out⟩
end Go.Proofs.YtcnkmhfcgkbhbaaGreat
namespace Go.Proofs.YtcnkmhfcgkbhbaaGreat
open Go.RowKit
set_option maxHeartbeats 20000000 in
set_option maxRecDepth 100000 in
theorem calls_walk (a0 : Option Addr) (len0 cap0 : Nat) (hs : List Hv) (a1 : Option Addr) (len1 cap1 : Nat) (z1 : Nat → Nat → Int) (x : Int) (w : World) (hv : HD w (.slice a0 len0 cap0) hs) (hlen : hs.length = len0) (hv1 : IsRows 2 w a1 len1 cap1 z1) (hna : a1 = none → cap1 = 0) :
    Calls Tryz.prog 3 #[.slice a0 len0 cap0, .slice a1 len1 cap1, .int .i64 x] w fun e w' => e = .returned (.bool true) ∧ Below w.heap.size w w' := by
  have hE := Lib.hid (edL_rl hv1 hna)
  have hel := edL_len len1 z1
  clear hv1 hna
  generalize edL len1 z1 = L at *
  by_cases h40 : len1 ≤ 40
  · have i40 : ¬ ((40 : Int) < (len1 : Int)) := by omega
    have hl40 : L.length ≤ 900 := by omega
    have HRt := Lib.hid (fun W hb => right_any (.slice a0 len0 cap0) hs W (hv.below hb))
    have HO := Lib.hid (fun W (hb : Below w.heap.size w W) => ownE_any (.slice a1 len1 cap1) L W (hE.out.below hb) (by omega))
    have HC := Lib.hid (fun v W h => cycle_any v L W h (by omega))
    have HCr := Lib.hid (fun W (hb : Below w.heap.size w W) => cycleR_any (.slice a1 len1 cap1) L W (hE.out.below hb) (by omega))
    have HA := Lib.hid (fun W (hb : Below w.heap.size w W) => acyclic_any (.slice a1 len1 cap1) L W (hE.out.below hb) (by omega))
    have HAr := Lib.hid (fun W (hb : Below w.heap.size w W) => acyclicR_any (.slice a1 len1 cap1) L W (hE.out.below hb) (by omega))
    have HS := Lib.hid (fun v W h => sorted_any v L W h (by omega))
    have HSr := Lib.hid (fun W (hb : Below w.heap.size w W) => sortedR_any (.slice a1 len1 cap1) L W (hE.out.below hb) (by omega))
    have HR := Lib.hid (fun W (hb : Below w.heap.size w W) => reachL_any (.slice a1 len1 cap1) L x W (hE.out.below hb) (by omega))
    have HRr := Lib.hid (fun W (hb : Below w.heap.size w W) => reachR_any (.slice a1 len1 cap1) L x W (hE.out.below hb) (by omega))
    have HW := Lib.hid (fun v W h => without_any v L x W h (by omega))
    have HWr := Lib.hid (fun W (hb : Below w.heap.size w W) => withoutR_any (.slice a1 len1 cap1) L x W (hE.out.below hb) (by omega))
    have hcl : (cyc L).1.length ≤ L.length + 1 := cycG_len L _
    have hrl := rcL_le L x
    have hsl := sdE_len L
    have hwl := keepL_len (onE x) L
    have hedges : rightH hs 8 = true → hs.length ≤ 8 ∧ (∀ x ∈ hs, x.l.length ≤ 12) ∧ ∀ x ∈ hs, IdsD x.l := by
      intro h
      unfold rightH lightH at h
      simp only [Bool.and_eq_true, decide_eq_true_eq, List.all_eq_true] at h
      exact ⟨h.1.1, h.1.2, fun y hy => checkB_ids _ _ (h.2 y hy)⟩
    replace hedges := Lib.hid hedges
    have hvv := Lib.hid hv
    clear hv
    obtain ⟨C, hCy⟩ : ∃ C, cyc L = C := ⟨_, rfl⟩
    rw [hCy] at HA HAr hcl
    simp only [hCy] at HC HCr
    obtain ⟨xs, ok⟩ := C
    simp only at HC HCr HA HAr hcl
    generalize rcL L x = rs at *
    generalize sdE L = S at *
    generalize keepL (onE x) L = K at *
    clear hCy
    rw [hel] at HO HC HS HW
    replace HC := Lib.hid HC.out
    replace HCr := Lib.hid HCr.out
    go_enter Tryz.func3, Tryz.ntmps3
    go_wp2_with fail
    refine (lives_any _).mono ?_
    rintro e w1 ⟨rfl, q⟩
    have hV := Lib.hid ((Sep.start w).below q)
    clear q
    go_wp2_with fail
    refine (HO.out _ hV.out.gold).mono ?_
    rintro e w2 ⟨oa, oc, rfl, q⟩
    replace hV := Lib.hid (q.graft hV.out)
    clear q
    go_wp2_with fail
    refine (HC.out _ _ hV.out.vec_rl).mono ?_
    rintro e w3 ⟨ca, cc, rfl, q⟩
    replace hV := Lib.hid (q.graft hV.out).drop1
    clear q HC
    go_wp2_with fail
    refine (HCr.out _ hV.out.tail.gold).mono ?_
    rintro e w4 ⟨da, dc, rfl, q⟩
    replace hV := Lib.hid (q.graft hV.out)
    clear q HCr
    go_wp2_with fail
    refine (same_true _ _ xs _ (by omega) hV.out.to1.vec_ri hV.out.vec_ri).mono ?_
    rintro e w5 ⟨rfl, m1, rfl⟩
    replace hV := Lib.hid ((hV.out.drewN m1).tail.tail)
    go_wp2_with fail
    refine (HA.out _ hV.out.gold).mono ?_
    rintro e w6 ⟨rfl, q⟩
    replace hV := Lib.hid (hV.out.below q)
    clear q HA
    go_wp2_with fail
    refine (HAr.out _ hV.out.gold).mono ?_
    rintro e w7 ⟨rfl, q⟩
    replace hV := Lib.hid (hV.out.below q)
    clear q HAr
    go_wp2_with fail
    refine (HO.out _ hV.out.gold).mono ?_
    rintro e w8 ⟨pa, pc, rfl, q⟩
    replace hV := Lib.hid (q.graft hV.out)
    clear q
    go_wp2_with fail
    refine (HS.out _ _ hV.out.vec_rl).mono ?_
    rintro e w9 ⟨sa, sc, rfl, q⟩
    replace hV := Lib.hid (q.graft hV.out).drop1
    clear q HS
    go_wp2_with fail
    refine (HSr.out _ hV.out.tail.gold).mono ?_
    rintro e w10 ⟨ta, tc, rfl, q⟩
    replace hV := Lib.hid (q.graft hV.out)
    clear q HSr
    go_wp2_with fail
    refine (sameE_true _ _ S _ (by omega) hV.out.to1.vec_rl hV.out.vec_rl).mono ?_
    rintro e w11 ⟨rfl, m2, rfl⟩
    replace hV := Lib.hid ((hV.out.drewN m2).tail.tail)
    go_wp2_with fail
    refine (HR.out _ hV.out.gold).mono ?_
    rintro e w12 ⟨ra, rc, rfl, q⟩
    replace hV := Lib.hid (q.graft hV.out)
    clear q HR
    go_wp2_with fail
    refine (HRr.out _ hV.out.tail.gold).mono ?_
    rintro e w13 ⟨ga, gc, rfl, q⟩
    replace hV := Lib.hid (q.graft hV.out)
    clear q HRr
    go_wp2_with fail
    refine (same_true _ _ rs _ (by omega) hV.out.to1.vec_ri hV.out.vec_ri).mono ?_
    rintro e w14 ⟨rfl, m3, rfl⟩
    replace hV := Lib.hid ((hV.out.drewN m3).tail.tail)
    go_wp2_with fail
    refine (HO.out _ hV.out.gold).mono ?_
    rintro e w15 ⟨qa, qc, rfl, q⟩
    replace hV := Lib.hid (q.graft hV.out)
    clear q HO
    go_wp2_with fail
    refine (HW.out _ _ hV.out.vec_rl).mono ?_
    rintro e w16 ⟨ua, uc, rfl, q⟩
    replace hV := Lib.hid (q.graft hV.out).drop1
    clear q HW
    go_wp2_with fail
    refine (HWr.out _ hV.out.tail.gold).mono ?_
    rintro e w17 ⟨va, vc, rfl, q⟩
    replace hV := Lib.hid (q.graft hV.out)
    clear q HWr
    go_wp2_with fail
    refine (sameE_true _ _ K _ (by omega) hV.out.to1.vec_rl hV.out.vec_rl).mono ?_
    rintro e w18 ⟨rfl, m4, rfl⟩
    replace hV := Lib.hid ((hV.out.drewN m4).tail.tail)
    go_wp2_with fail
    have HR1 := HRt.out _ hV.out.gold
    clear HRt
    cases hrh : rightH hs 8 with
    | false =>
      rw [hrh] at HR1
      refine HR1.mono ?_
      rintro e w19 ⟨rfl, q⟩
      replace hV := Lib.hid (hV.out.below q)
      clear q
      go_wp2_with fail
      go_ret
      exact ⟨rfl, hV.out.gold⟩
    | true =>
      rw [hrh] at HR1
      obtain ⟨h8, h12, hid⟩ := hedges.out hrh
      have HE := Lib.hid (fun W (hb : Below w.heap.size w W) => edges_any (.slice a0 len0 cap0) hs W (hvv.out.below hb) h8 h12)
      have HEr := Lib.hid (fun W (hb : Below w.heap.size w W) => edgesR_any (.slice a0 len0 cap0) hs W (hvv.out.below hb) h8 h12 hid)
      have hXl : (sdE (hdsE hs)).length ≤ 2000 := by
        have h1 := sdE_len (hdsE hs)
        have h2 := hdsE_len hs h12
        have : hs.length * 144 ≤ 8 * 144 := Nat.mul_le_mul_right _ h8
        omega
      generalize sdE (hdsE hs) = X at *
      clear hedges hrh h12 hid
      refine HR1.mono ?_
      rintro e w19 ⟨rfl, q⟩
      replace hV := Lib.hid (hV.out.below q)
      clear q
      go_wp2_with fail
      refine (HE.out _ hV.out.gold).mono ?_
      rintro e w20 ⟨fa, fc, rfl, q⟩
      replace hV := Lib.hid (q.graft hV.out)
      clear q HE
      go_wp2_with fail
      refine (HEr.out _ hV.out.tail.gold).mono ?_
      rintro e w21 ⟨ha, hc, rfl, q⟩
      replace hV := Lib.hid (q.graft hV.out)
      clear q HEr
      go_wp2_with fail
      refine (sameE_true _ _ X _ (by omega) hV.out.to1.vec_rl hV.out.vec_rl).mono ?_
      rintro e w22 ⟨rfl, m5, rfl⟩
      replace hV := Lib.hid ((hV.out.drewN m5).tail.tail)
      go_wp2_with fail
      go_ret
      exact ⟨rfl, hV.out.gold⟩
  · have i40 : (40 : Int) < (len1 : Int) := by omega
    clear hv hE
    go_enter Tryz.func3, Tryz.ntmps3
    go_wp2_with fail
    refine (lives_any _).mono ?_
    rintro e w1 ⟨rfl, q⟩
    have hV := Lib.hid ((Sep.start w).below q)
    clear q
    go_wp2_with fail
    go_ret
    exact ⟨rfl, hV.out.gold⟩
end Go.Proofs.YtcnkmhfcgkbhbaaGreat
