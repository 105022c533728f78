/-
  What one thread does changes nothing of another one: the walk of ParkerApart. No condition beside arguments that can be read.
-/
import Derived.Test.YtioaghkafomibaaCallsB
namespace Go.Proofs.Ytioaghkafomibaa
open Go.RowKit

theorem doS_len (L : List Int) (c t : Int) : (doS L c t).length = L.length := by
  unfold doS unS dropS parkS
  repeat' split
  all_goals simp
/-- What a call makes of a thread's own state. -/
def doF (c s : Int) : Int := if c % 4 = 2 then (if s = 1 then 0 else 2) else if c % 4 = 3 then (if s = 2 then 0 else s) else (if s = 1 then 1 else if s = 2 then 0 else 1)
theorem set_self (L : List Int) (k : Nat) (h : k < L.length) : L.set k (L.getD k 0) = L := by
  apply List.ext_getElem?
  intro i
  rw [List.getElem?_set]
  by_cases e : k = i
  · subst e
    rw [if_pos rfl, if_pos h, List.getD, List.getElem?_eq_getElem h]
    rfl
  · rw [if_neg e]
theorem doS_set (L : List Int) (c : Int) (k : Nat) (h : k < L.length) : doS L c k = L.set k (doF c (L.getD k 0)) := by
  have hk : okT L k = true := by simp [okT, h]
  have hs := set_self L k h
  unfold doS unS dropS parkS isB doF
  rw [hk, Int.toNat_natCast]
  generalize L.getD k 0 = s at *
  by_cases h2 : c % 4 = 2
  · rw [if_pos h2, if_pos h2, if_neg (by simp)]
    split <;> rfl
  · rw [if_neg h2, if_neg h2]
    by_cases h3 : c % 4 = 3
    · rw [if_pos h3, if_pos h3]
      by_cases e : s = 2
      · rw [if_pos (by simp [e]), if_pos e]
      · rw [if_neg (by simp [e]), if_neg e, hs]
    · rw [if_neg h3, if_neg h3, if_neg (by simp)]
      by_cases e : s = 1
      · rw [if_pos e, if_pos e, ← e, hs]
      · rw [if_neg e, if_neg e]
        split <;> rfl
theorem doS_at (L : List Int) (c t : Int) (j : Nat) : (doS L c t).getD j 0 = if t = j ∧ okT L t = true then doF c (L.getD j 0) else L.getD j 0 := by
  cases hk : okT L t with
  | false => simp [doS, unS, dropS, parkS, isB, hk]
  | true =>
    obtain ⟨k, hkt, hlt⟩ := okT_nat hk
    subst hkt
    rw [doS_set L c k hlt, getD_set _ _ _ _ hlt]
    by_cases hj : k = j
    · subst hj; simp
    · rw [if_neg hj, if_neg (by intro h; omega)]

/-- The two parkers agree on thread t. -/
structure Agree (n t : Nat) (Lp Lq : List Int) : Prop where
  lp : Lp.length = n
  lq : Lq.length = n
  at_ : Lp.getD t 0 = Lq.getD t 0
theorem okT_len {L M : List Int} (h : L.length = M.length) (t : Int) : okT L t = okT M t := by simp [okT, h]
theorem Agree.on {n t : Nat} {Lp Lq : List Int} (h : Agree n t Lp Lq) (c : Int) : Agree n t (doS Lp c t) (doS Lq c t) :=
  ⟨by rw [doS_len, h.lp], by rw [doS_len, h.lq], by rw [doS_at, doS_at, h.at_, okT_len (h.lp.trans h.lq.symm)]⟩
theorem Agree.off {n t : Nat} {Lp Lq : List Int} (h : Agree n t Lp Lq) (c u : Int) (hne : u ≠ t) : Agree n t (doS Lp c u) Lq :=
  ⟨by rw [doS_len, h.lp], h.lq, by rw [doS_at, if_neg (fun c => hne c.1), h.at_]⟩
theorem Agree.isB {n t : Nat} {Lp Lq : List Int} (h : Agree n t Lp Lq) (b : Int) : isB Lp t b = isB Lq t b := by
  unfold Ytioaghkafomibaa.isB
  rw [okT_len (h.lp.trans h.lq.symm), Int.toNat_natCast, h.at_]

set_option maxHeartbeats 4000000 in
set_option maxRecDepth 100000 in
theorem apart_walk (a0 : Int) (a : Option Addr) (len cap : Nat) (z : Nat → Nat → Int) (a2 : Int) (w : World) (_h0 : (Lit.int .i64 a0).wf = true) (h : IsRows 2 w a len cap z) (_h2 : (Lit.int .i64 a2).wf = true) :
    Calls Try.prog 4 #[.int .i64 a0, .slice a len cap, .int .i64 a2] w fun e w' => e = .returned (.bool true) ∧ Below w.heap.size w w' := by
  by_cases h60 : 60 < len
  · go_enter Try.func4, Try.ntmps4
    go_wp2_with (go_at_call 8; refine (lives_any _).mono ?_; rintro e w1 ⟨rfl, b1⟩)
    go_ret
    exact ⟨rfl, b1⟩
  · obtain ⟨n0, PN⟩ := pick_nat a0 8 (by omega) (by omega)
    have hn0 := PN.lt
    obtain ⟨n, hn⟩ : ∃ n : Nat, (1 : Int) + n0 = n := ⟨1 + n0, by omega⟩
    have hn1 : 1 ≤ n := by omega
    have hn2 : n ≤ 8 := by omega
    have H := Lib.hid h
    obtain ⟨k, PK0⟩ := pick_nat a2 n (by omega) (by omega)
    have hkn : k < n := by have := PK0.lt; omega
    clear h
    go_enter Try.func4, Try.ntmps4
    go_wp2_with fail
    refine (lives_any _).mono ?_
    rintro e w1 ⟨rfl, b1⟩
    go_wp2_with fail
    refine (PN.run.out _).mono ?_
    rintro e w2 ⟨rfl, rfl⟩
    go_wp2_with fail
    refine (new_ok n _ hn1 hn2).mono ?_
    rintro e w3 ⟨rfl, hLa, b3⟩
    go_wp2_with fail
    refine (new_ok n _ hn1 hn2).mono ?_
    rintro e w4 ⟨rfl, hLb, b4⟩
    go_wp2_with fail
    refine (PK0.run.out _).mono ?_
    rintro e w5 ⟨rfl, rfl⟩
    have bel := Lib.hid (b1.trans ((b3.mono b1.size).trans (b4.mono (Nat.le_trans b1.size b3.size))))
    have hga : w.heap.size ≤ w1.heap.size := b1.size
    have hgb : w1.heap.size + 1 < w3.heap.size := hLa.hp.lt
    have hLa := hLa.below b4
    have hag : Agree n k (List.replicate n 0) (List.replicate n 0) := ⟨by simp, by simp, rfl⟩
    replace hLa := Lib.hid hLa
    replace hLb := Lib.hid hLb
    replace hag := Lib.hid hag
    clear b1 b3 b4 PN hn0 hn PK0
    generalize List.replicate n (0 : Int) = L0 at *
    generalize w3.heap.size = gb at *
    generalize w1.heap.size = ga at *
    generalize hpa : ga + 1 = pa at *
    generalize hpb : gb + 1 = pb at *
    replace hpa := Lib.hid hpa
    replace hpb := Lib.hid hpb
    go_wp2_with fail
    go_loopw [11] (fun i wr => ∃ k1 : Nat, k1 ≤ len ∧ i = .int .i64 k1 ∧ ∃ La Lb, Agree n k La Lb ∧ Par wr pa ga La ∧ Par wr pb gb Lb ∧ Below w.heap.size w wr) (fun i _ => len - (intOf i).toNat)
    case atStart => exact ⟨0, Nat.zero_le _, rfl, L0, L0, hag.out, hLa.out, hLb.out, bel.out⟩
    case round =>
      clear hLa hLb bel hag
      obtain ⟨i, hi, rfl, La, Lb, hag, hLa, hLb, bel⟩ := hrel
      by_cases hlt : i < len
      · obtain ⟨hlc, hcm, b, off, rfl, hbs, hz⟩ : len ≤ cap ∧ cap ≤ maxLen ∧ ∃ b off, a = some ⟨b, off, none⟩ ∧ b < w.heap.size ∧ ∀ i, i < len → ∀ j, j < 2 → w.cell? ⟨b, off + i * 2 + j, none⟩ = some (.int .i64 (z i j)) ∧ (Lit.int .i64 (z i j)).wf = true := ⟨H.out.1, H.out.2.1, H.out.2.2 (by omega)⟩
        have z0 := (hz i hlt 0 (by omega)).1
        have z1 := (hz i hlt 1 (by omega)).1
        rw [Nat.add_zero] at z0
        have zz0 := Lib.hid z0
        have zz1 := Lib.hid z1
        rw [← bel.cell (by exact hbs)] at z0 z1
        clear hz H
        generalize z i 0 = c at *
        generalize z i 1 = u at *
        have HD := Lib.hid (do_any pa ga c u La wr hLa)
        have gab : ga ≠ gb := by have := hpa.out; omega
        have pagb : pa ≠ gb := by have := hpa.out; omega
        have pbga : pb ≠ ga := by have := hpb.out; have := hpa.out; omega
        have hgbw : w.heap.size ≤ gb := by have := hpa.out; omega
        replace hag := Lib.hid hag
        replace hLa := Lib.hid hLa
        replace hLb := Lib.hid hLb
        replace bel := Lib.hid bel
        go_wp2_with fail
        refine HD.out.mono ?_
        rintro e w6 ⟨rfl, hLa6, hg6⟩
        have hLb6 := Lib.hid (hLb.out.grown hg6 pbga (Ne.symm gab))
        have bel6 := Lib.hid (below_grown bel.out hg6 bel.out.size hga)
        replace hLa6 := Lib.hid hLa6
        clear hg6 z0 z1 HD bel hLa hLb
        have z0 := (bel6.out.cell (by exact hbs)).trans zz0.out
        have z1 := (bel6.out.cell (by exact hbs)).trans zz1.out
        by_cases hu : u = k
        · have hue := Lib.hid hu
          have hb : (u == (k : Int)) = true := by rw [beq_iff_eq]; exact hu
          clear hu
          have HD := Lib.hid (do_any pb gb c u Lb w6 hLb6.out)
          go_wp2_with fail
          refine HD.out.mono ?_
          rintro e w7 ⟨rfl, hLb7, hg7⟩
          have hag7 := hag.out.on c
          rw [← hue.out] at hag7
          have hLa7 := hLa6.out.grown hg7 pagb gab
          have bel7 := Lib.hid (below_grown bel6.out hg7 bel6.out.size hgbw)
          have e1 := hag7.isB 1
          have e2 := hag7.isB 2
          have P1 := parked_any pa ga k _ _ hLa7
          have T1 := token_any pa ga k _ _ hLa7
          rw [e1] at P1
          rw [e2] at T1
          replace P1 := Lib.hid P1
          replace T1 := Lib.hid T1
          have P2 := Lib.hid (parked_any pb gb k _ _ hLb7)
          have T2 := Lib.hid (token_any pb gb k _ _ hLb7)
          replace hag7 := Lib.hid hag7
          replace hLa7 := Lib.hid hLa7
          replace hLb7 := Lib.hid hLb7
          clear hg7 e1 e2 hag hLa6 hLb6 bel6 z0 z1
          generalize isB (doS Lb c u) k 1 = B1 at *
          generalize isB (doS Lb c u) k 2 = B2 at *
          go_wp2_with fail
          refine P1.out.mono ?_
          rintro e w8 ⟨rfl, rfl⟩
          go_wp2_with fail
          refine P2.out.mono ?_
          rintro e w8 ⟨rfl, rfl⟩
          go_wp2_with fail
          refine T1.out.mono ?_
          rintro e w8 ⟨rfl, rfl⟩
          go_wp2_with fail
          refine T2.out.mono ?_
          rintro e w8 ⟨rfl, rfl⟩
          go_wp2_with fail
          go_roundw
          case rel => exact ⟨i + 1, by omega, by go_num, _, _, hag7.out, hLa7.out, hLb7.out, bel7.out⟩
          case measure => simp [intOf]; omega
        · have hb : (u == (k : Int)) = false := by rw [beq_eq_false_iff_ne]; exact hu
          have hag7 := hag.out.off c u hu
          clear hu
          have e1 := hag7.isB 1
          have e2 := hag7.isB 2
          have P1 := parked_any pa ga k _ _ hLa6.out
          have T1 := token_any pa ga k _ _ hLa6.out
          rw [e1] at P1
          rw [e2] at T1
          replace P1 := Lib.hid P1
          replace T1 := Lib.hid T1
          have P2 := Lib.hid (parked_any pb gb k _ _ hLb6.out)
          have T2 := Lib.hid (token_any pb gb k _ _ hLb6.out)
          replace hag7 := Lib.hid hag7
          clear e1 e2 hag
          generalize isB Lb k 1 = B1 at *
          generalize isB Lb k 2 = B2 at *
          go_wp2_with fail
          refine P1.out.mono ?_
          rintro e w8 ⟨rfl, rfl⟩
          go_wp2_with fail
          refine P2.out.mono ?_
          rintro e w8 ⟨rfl, rfl⟩
          go_wp2_with fail
          refine T1.out.mono ?_
          rintro e w8 ⟨rfl, rfl⟩
          go_wp2_with fail
          refine T2.out.mono ?_
          rintro e w8 ⟨rfl, rfl⟩
          go_wp2_with fail
          go_roundw
          case rel => exact ⟨i + 1, by omega, by go_num, _, _, hag7.out, hLa6.out, hLb6.out, bel6.out⟩
          case measure => simp [intOf]; omega
      · replace bel := Lib.hid bel
        clear hLa hLb hag H
        go_wp2_with fail
        go_ret
        exact ⟨rfl, bel.out⟩
end Go.Proofs.Ytioaghkafomibaa
