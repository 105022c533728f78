/-
  A thread that is parked and unparked is as it was: the walk of ParkerBack. No condition beside arguments that can be read.
-/
import Derived.Test.YtioaghkafomibaaApart
namespace Go.Proofs.Ytioaghkafomibaa
open Go.RowKit

theorem okT_in {L : List Int} {k : Nat} (h : k < L.length) : okT L k = true := by simp [okT, h]
theorem isB_in (L : List Int) (k : Nat) (h : k < L.length) (b : Int) : isB L k b = decide (L.getD k 0 = b) := by simp only [isB, okT_in h, Int.toNat_natCast, Bool.true_and]
theorem unS_eq (L : List Int) (k : Nat) (h : k < L.length) : unS L k = L.set k (if L.getD k 0 = 1 then 0 else 2) := by
  simp only [unS, okT_in h, Int.toNat_natCast]
  rw [if_neg (by simp)]
  split <;> rfl
theorem dropS_eq (L : List Int) (k : Nat) (h : k < L.length) : dropS L k = L.set k (if L.getD k 0 = 2 then 0 else L.getD k 0) := by
  simp only [dropS, isB_in L k h, Int.toNat_natCast, decide_eq_true_eq]
  by_cases e : L.getD k 0 = 2
  · rw [if_pos e, if_pos e]
  · rw [if_neg e, if_neg e, set_self L k h]
theorem parkS_eq (L : List Int) (k : Nat) (h : k < L.length) : parkS L k = L.set k (if L.getD k 0 = 1 then 1 else if L.getD k 0 = 2 then 0 else 1) := by
  simp only [parkS, okT_in h, Int.toNat_natCast]
  by_cases e : L.getD k 0 = 1
  · rw [if_neg (by simp), if_pos e, if_pos e, ← e, set_self L k h]
  · rw [if_neg (by simp), if_neg e, if_neg e]
    split <;> rfl
theorem parkC_eq (L : List Int) (k : Nat) (h : k < L.length) : parkC L k = if L.getD k 0 = 1 then 4 else 0 := by
  simp only [parkC, okT_in h, Int.toNat_natCast]
  simp
theorem getD_self (L : List Int) (k : Nat) (x : Int) (h : k < L.length) : (L.set k x).getD k 0 = x := by rw [getD_set _ _ _ _ h, if_pos rfl]
theorem waitK_set (L : List Int) (k : Nat) (x : Int) (h : k < L.length) (h1 : L.getD k 0 ≠ 1) (hx : x ≠ 1) : ∀ n, waitK (L.set k x) n = waitK L n
  | 0 => rfl
  | n+1 => by
    unfold waitK
    rw [waitK_set L k x h h1 hx n, getD_set _ _ _ _ h]
    by_cases e : k = n
    · subst e
      rw [if_pos rfl, if_neg hx, if_neg h1]
    · rw [if_neg e]

set_option maxHeartbeats 4000000 in
set_option maxRecDepth 100000 in
theorem back_walk (a0 : Int) (a : Option Addr) (len cap : Nat) (z : Nat → Nat → Int) (a2 : Int) (w : World) (_h0 : (Lit.int .i64 a0).wf = true) (h : IsRows 2 w a len cap z) (_h2 : (Lit.int .i64 a2).wf = true) :
    Calls Try.prog 7 #[.int .i64 a0, .slice a len cap, .int .i64 a2] w fun e w' => e = .returned (.bool true) ∧ Below w.heap.size w w' := by
  by_cases h60 : 40 < len
  · go_enter Try.func7, Try.ntmps7
    go_wp2_with (go_at_call 8; refine (lives_any _).mono ?_; rintro e w1 ⟨rfl, b1⟩)
    go_ret
    exact ⟨rfl, b1⟩
  · obtain ⟨n0, PN⟩ := pick_nat a0 8 (by omega) (by omega)
    have hn0 := PN.lt
    obtain ⟨n, hn⟩ : ∃ n : Nat, (1 : Int) + n0 = n := ⟨1 + n0, by omega⟩
    have hn1 : 1 ≤ n := by omega
    have hn2 : n ≤ 8 := by omega
    have H := Lib.hid h
    obtain ⟨k, PK0⟩ := pick_nat a2 n (by omega) (by omega)
    have hkn : k < n := by have := PK0.lt; omega
    clear h
    go_enter Try.func7, Try.ntmps7
    go_wp2_with fail
    refine (lives_any _).mono ?_
    rintro e w1 ⟨rfl, b1⟩
    go_wp2_with fail
    refine (PN.run.out _).mono ?_
    rintro e w2 ⟨rfl, rfl⟩
    go_wp2_with fail
    refine (new_ok n _ hn1 hn2).mono ?_
    rintro e w3 ⟨rfl, hL, b3⟩
    have bel := Lib.hid (b1.trans (b3.mono b1.size))
    have hg : w.heap.size ≤ w1.heap.size := b1.size
    replace hL := Lib.hid hL
    have hlen0 := Lib.hid (show (List.replicate n (0 : Int)).length = n by simp)
    clear b1 b3 PN hn0 hn
    generalize List.replicate n (0 : Int) = L0 at *
    generalize w1.heap.size = g at *
    generalize hp : g + 1 = p at *
    replace hp := Lib.hid hp
    go_wp2_with fail
    go_loopw [9] (fun i wr => ∃ k1 : Nat, k1 ≤ len ∧ i = .int .i64 k1 ∧ ∃ L : List Int, Hid (L.length = n) ∧ Par wr p g L ∧ Below w.heap.size w wr) (fun i _ => len - (intOf i).toNat)
    case atStart => exact ⟨0, Nat.zero_le _, rfl, L0, hlen0.out, hL.out, bel.out⟩
    case round =>
      clear hL bel hlen0
      obtain ⟨i, hi, rfl, L, hlen, hL, bel⟩ := hrel
      by_cases hlt : i < len
      · obtain ⟨hlc, hcm, b, off, rfl, hbs, hz⟩ : len ≤ cap ∧ cap ≤ maxLen ∧ ∃ b off, a = some ⟨b, off, none⟩ ∧ b < w.heap.size ∧ ∀ i, i < len → ∀ j, j < 2 → w.cell? ⟨b, off + i * 2 + j, none⟩ = some (.int .i64 (z i j)) ∧ (Lit.int .i64 (z i j)).wf = true := ⟨H.out.1, H.out.2.1, H.out.2.2 (by omega)⟩
        have z0 := (hz i hlt 0 (by omega)).1
        have z1 := (hz i hlt 1 (by omega)).1
        rw [Nat.add_zero] at z0
        rw [← bel.cell (by exact hbs)] at z0 z1
        clear hz H
        generalize z i 0 = c at *
        generalize z i 1 = u at *
        have HD := Lib.hid (do_any p g c u L wr hL)
        replace bel := Lib.hid bel
        clear hL PK0
        go_wp2_with fail
        refine HD.out.mono ?_
        rintro e w6 ⟨rfl, hL6, hg6⟩
        have bel6 := Lib.hid (below_grown bel.out hg6 bel.out.size hg)
        have hlen6 := Lib.hid ((doS_len L c u).trans hlen.out)
        replace hL6 := Lib.hid hL6
        clear hg6 HD bel hlen z0 z1
        go_wp2_with fail
        go_roundw
        case rel => exact ⟨i + 1, by omega, by go_num, _, hlen6.out, hL6.out, bel6.out⟩
        case measure => simp [intOf]; omega
      · have hgp : g < p := by have := hp.out; omega
        have hplt := hL.hp.lt
        have hkl : k < L.length := by have := hlen.out; omega
        have hst := hL.st k hkl
        replace hL := Lib.hid hL
        replace bel := Lib.hid bel
        clear H
        go_wp2_with fail
        refine (PK0.run.out _).mono ?_
        rintro e w5 ⟨rfl, rfl⟩
        clear PK0
        go_wp2_with fail
        refine (waiting_any p g L _ hL.out).mono ?_
        rintro e w4 ⟨v, rfl, hown, hb4⟩
        obtain ⟨va, vc, rfl⟩ := own_slice hown
        have h1 := Lib.hid (hL.out.below hb4)
        have b1 := Lib.hid (bel.out.trans (hb4.mono bel.out.size))
        have hml := waitK_len L L.length
        have hml8 : (waitK L L.length).length ≤ 8 := by have := hL.out.len; omega
        have o1 := Lib.hid hown
        have hgb : g < wr.heap.size := by omega
        clear hown hb4 bel hL hml
        have T := Lib.hid (token_any p g k L _ h1.out)
        have P := Lib.hid (parked_any p g k L _ h1.out)
        have iB := fun b => isB_in L k hkl b
        rcases hst with hs | hs | hs
        · have i1 : isB L k 1 = false := by rw [iB, hs]; rfl
          have i2 : isB L k 2 = false := by rw [iB, hs]; rfl
          have hS := Lib.hid (show L = L.set k 0 by have := set_self L k hkl; rw [hs] at this; exact this.symm)
          replace hs := Lib.hid hs
          clear iB
          have hkl' : ∀ x, k < (L.set k x).length := fun x => by rw [List.length_set]; exact hkl
          replace hkl' := Lib.hid hkl'
          go_wp2_with fail
          refine T.out.mono ?_
          rintro e w' ⟨rfl, rfl⟩
          go_wp2_with fail
          refine P.out.mono ?_
          rintro e w' ⟨rfl, rfl⟩
          clear T P
          replace h1 : Hid (Par w4 p g (L.set k 0)) := by rw [← hS.out]; exact h1
          have X2 := unpark_any p g k _ _ h1.out
          rw [show isB (L.set k 0) k 1 = false from by rw [isB_in _ _ (hkl'.out _), getD_self L k _ hkl]; rfl] at X2
          rw [show unC (L.set k 0) k = 0 from unC_ok (okT_in (hkl'.out _))] at X2
          replace X2 := Lib.hid X2
          go_wp2_with fail
          refine X2.out.mono ?_
          rintro e w12 ⟨rfl, h2, hg2⟩
          replace h2 : Hid (Par w12 p g (L.set k 2)) := by rw [unS_eq _ _ (hkl'.out _), getD_self L k _ hkl, List.set_set] at h2; exact h2
          have b2 := Lib.hid (below_grown b1.out hg2 b1.out.size hg)
          have o2 := Lib.hid (o1.out.kept hg2 (.inr (fun e => by have := (o1.out.lt _ e).1; omega)))
          clear hg2 X2 h1 b1 o1
          have Y := token_any p g k _ _ h2.out
          rw [show isB (L.set k 2) k 2 = true from by rw [isB_in _ _ (hkl'.out _), getD_self L k _ hkl]; rfl] at Y
          replace Y := Lib.hid Y
          go_wp2_with fail
          refine Y.out.mono ?_
          rintro e w' ⟨rfl, rfl⟩
          clear Y
          have X3 := waiting_any p g _ _ h2.out
          rw [show waitK (L.set k 2) (L.set k 2).length = waitK L L.length from by rw [List.length_set]; exact waitK_set L k _ hkl (by rw [hs.out]; decide) (by decide) _] at X3
          replace X3 := Lib.hid X3
          go_wp2_with fail
          refine X3.out.mono ?_
          rintro e w13 ⟨v3, rfl, ho3, hb3⟩
          have r3 := RI.of_own ho3
          have r := (RI.of_own o2.out).below hb3
          have Z := Lib.hid (same_true _ _ _ _ (by omega) r3 r)
          have oo := Lib.hid (o2.out.kept (grown_below (r := none) hb3 rfl) (by cases Value.ownBlock (Value.slice va (waitK L L.length).length vc) <;> simp))
          have hh := Lib.hid (h2.out.below hb3)
          have bb := Lib.hid (b2.out.trans (hb3.mono b2.out.size))
          clear ho3 hb3 r3 r X3 h2 b2 o2
          go_wp2_with fail
          refine Z.out.mono ?_
          rintro e w' ⟨rfl, nd, rfl⟩
          have h3 := Lib.hid (hh.out.drewN nd)
          have b3 := Lib.hid (below_drewN bb.out nd)
          have o3 := Lib.hid (oo.out.kept (grown_drewN (grown_refl _ none) nd) (by cases Value.ownBlock (Value.slice va (waitK L L.length).length vc) <;> simp))
          clear oo hh bb Z
          generalize World.drewN _ nd = wz3 at *
          have X4 := drop_any p g k _ _ h3.out
          rw [show isB (L.set k 2) k 2 = true from by rw [isB_in _ _ (hkl'.out _), getD_self L k _ hkl]; rfl] at X4
          replace X4 := Lib.hid X4
          go_wp2_with fail
          refine X4.out.mono ?_
          rintro e w14 ⟨rfl, h4, hg4⟩
          replace h4 : Hid (Par w14 p g (L.set k 0)) := by rw [dropS_eq _ _ (hkl'.out _), getD_self L k _ hkl, List.set_set] at h4; exact h4
          have b4 := Lib.hid (below_grown b3.out hg4 b3.out.size hg)
          have o4 := Lib.hid (o3.out.kept hg4 (.inr (fun e => by have := (o3.out.lt _ e).1; omega)))
          clear hg4 X4 h3 b3 o3
          have Y := token_any p g k _ _ h4.out
          rw [show isB (L.set k 0) k 2 = false from by rw [isB_in _ _ (hkl'.out _), getD_self L k _ hkl]; rfl] at Y
          replace Y := Lib.hid Y
          go_wp2_with fail
          refine Y.out.mono ?_
          rintro e w' ⟨rfl, rfl⟩
          clear Y
          have X5 := drop_any p g k _ _ h4.out
          rw [show isB (L.set k 0) k 2 = false from by rw [isB_in _ _ (hkl'.out _), getD_self L k _ hkl]; rfl] at X5
          replace X5 := Lib.hid X5
          go_wp2_with fail
          refine X5.out.mono ?_
          rintro e w15 ⟨rfl, h5, hg5⟩
          replace h5 : Hid (Par w15 p g (L.set k 0)) := by rw [dropS_eq _ _ (hkl'.out _), getD_self L k _ hkl, List.set_set] at h5; exact h5
          have b5 := Lib.hid (below_grown b4.out hg5 b4.out.size hg)
          have o5 := Lib.hid (o4.out.kept hg5 (.inr (fun e => by have := (o4.out.lt _ e).1; omega)))
          clear hg5 X5 h4 b4 o4
          have X6 := park_any p g k _ _ h5.out
          rw [show isB (L.set k 0) k 2 = false from by rw [isB_in _ _ (hkl'.out _), getD_self L k _ hkl]; rfl] at X6
          rw [show parkC (L.set k 0) k = 0 from by rw [parkC_eq _ _ (hkl'.out _), getD_self L k _ hkl]; rfl] at X6
          replace X6 := Lib.hid X6
          go_wp2_with fail
          refine X6.out.mono ?_
          rintro e w16 ⟨rfl, h6, hg6⟩
          replace h6 : Hid (Par w16 p g (L.set k 1)) := by rw [parkS_eq _ _ (hkl'.out _), getD_self L k _ hkl, List.set_set] at h6; exact h6
          have b6 := Lib.hid (below_grown b5.out hg6 b5.out.size hg)
          have o6 := Lib.hid (o5.out.kept hg6 (.inr (fun e => by have := (o5.out.lt _ e).1; omega)))
          clear hg6 X6 h5 b5 o5
          have X7 := unpark_any p g k _ _ h6.out
          rw [show isB (L.set k 1) k 1 = true from by rw [isB_in _ _ (hkl'.out _), getD_self L k _ hkl]; rfl] at X7
          rw [show unC (L.set k 1) k = 0 from unC_ok (okT_in (hkl'.out _))] at X7
          replace X7 := Lib.hid X7
          go_wp2_with fail
          refine X7.out.mono ?_
          rintro e w17 ⟨rfl, h7, hg7⟩
          replace h7 : Hid (Par w17 p g (L.set k 0)) := by rw [unS_eq _ _ (hkl'.out _), getD_self L k _ hkl, List.set_set] at h7; exact h7
          have b7 := Lib.hid (below_grown b6.out hg7 b6.out.size hg)
          have o7 := Lib.hid (o6.out.kept hg7 (.inr (fun e => by have := (o6.out.lt _ e).1; omega)))
          clear hg7 X7 h6 b6 o6
          have X8 := waiting_any p g _ _ h7.out
          rw [show waitK (L.set k 0) (L.set k 0).length = waitK L L.length from by rw [List.length_set, ← hS.out]] at X8
          replace X8 := Lib.hid X8
          go_wp2_with fail
          refine X8.out.mono ?_
          rintro e w18 ⟨v8, rfl, ho8, hb8⟩
          have r8 := RI.of_own ho8
          have r := (RI.of_own o7.out).below hb8
          have Z := Lib.hid (same_true _ _ _ _ (by omega) r8 r)
          have oo := Lib.hid (o7.out.kept (grown_below (r := none) hb8 rfl) (by cases Value.ownBlock (Value.slice va (waitK L L.length).length vc) <;> simp))
          have hh := Lib.hid (h7.out.below hb8)
          have bb := Lib.hid (b7.out.trans (hb8.mono b7.out.size))
          clear ho8 hb8 r8 r X8 h7 b7 o7
          go_wp2_with fail
          refine Z.out.mono ?_
          rintro e w' ⟨rfl, nd, rfl⟩
          have h8 := Lib.hid (hh.out.drewN nd)
          have b8 := Lib.hid (below_drewN bb.out nd)
          have o8 := Lib.hid (oo.out.kept (grown_drewN (grown_refl _ none) nd) (by cases Value.ownBlock (Value.slice va (waitK L L.length).length vc) <;> simp))
          clear oo hh bb Z
          generalize World.drewN _ nd = wz8 at *
          have Y := token_any p g k _ _ h8.out
          rw [show isB (L.set k 0) k 2 = false from by rw [isB_in _ _ (hkl'.out _), getD_self L k _ hkl]; rfl] at Y
          replace Y := Lib.hid Y
          go_wp2_with fail
          refine Y.out.mono ?_
          rintro e w' ⟨rfl, rfl⟩
          clear Y
          go_wp2_with fail
          go_ret
          exact ⟨rfl, b8.out⟩
        · have i1 : isB L k 1 = true := by rw [iB, hs]; rfl
          have i2 : isB L k 2 = false := by rw [iB, hs]; rfl
          have hS := Lib.hid (show L = L.set k 1 by have := set_self L k hkl; rw [hs] at this; exact this.symm)
          replace hs := Lib.hid hs
          clear iB
          have hkl' : ∀ x, k < (L.set k x).length := fun x => by rw [List.length_set]; exact hkl
          replace hkl' := Lib.hid hkl'
          go_wp2_with fail
          refine T.out.mono ?_
          rintro e w' ⟨rfl, rfl⟩
          go_wp2_with fail
          refine P.out.mono ?_
          rintro e w' ⟨rfl, rfl⟩
          clear T P
          replace h1 : Hid (Par w4 p g (L.set k 1)) := by rw [← hS.out]; exact h1
          have X2 := unpark_any p g k _ _ h1.out
          rw [show isB (L.set k 1) k 1 = true from by rw [isB_in _ _ (hkl'.out _), getD_self L k _ hkl]; rfl] at X2
          rw [show unC (L.set k 1) k = 0 from unC_ok (okT_in (hkl'.out _))] at X2
          replace X2 := Lib.hid X2
          go_wp2_with fail
          refine X2.out.mono ?_
          rintro e w12 ⟨rfl, h2, hg2⟩
          replace h2 : Hid (Par w12 p g (L.set k 0)) := by rw [unS_eq _ _ (hkl'.out _), getD_self L k _ hkl, List.set_set] at h2; exact h2
          have b2 := Lib.hid (below_grown b1.out hg2 b1.out.size hg)
          have o2 := Lib.hid (o1.out.kept hg2 (.inr (fun e => by have := (o1.out.lt _ e).1; omega)))
          clear hg2 X2 h1 b1 o1
          have X3 := park_any p g k _ _ h2.out
          rw [show isB (L.set k 0) k 2 = false from by rw [isB_in _ _ (hkl'.out _), getD_self L k _ hkl]; rfl] at X3
          rw [show parkC (L.set k 0) k = 0 from by rw [parkC_eq _ _ (hkl'.out _), getD_self L k _ hkl]; rfl] at X3
          replace X3 := Lib.hid X3
          go_wp2_with fail
          refine X3.out.mono ?_
          rintro e w13 ⟨rfl, h3, hg3⟩
          replace h3 : Hid (Par w13 p g (L.set k 1)) := by rw [parkS_eq _ _ (hkl'.out _), getD_self L k _ hkl, List.set_set] at h3; exact h3
          have b3 := Lib.hid (below_grown b2.out hg3 b2.out.size hg)
          have o3 := Lib.hid (o2.out.kept hg3 (.inr (fun e => by have := (o2.out.lt _ e).1; omega)))
          clear hg3 X3 h2 b2 o2
          have X4 := waiting_any p g _ _ h3.out
          rw [show waitK (L.set k 1) (L.set k 1).length = waitK L L.length from by rw [List.length_set, ← hS.out]] at X4
          replace X4 := Lib.hid X4
          go_wp2_with fail
          refine X4.out.mono ?_
          rintro e w14 ⟨v4, rfl, ho4, hb4⟩
          have r4 := RI.of_own ho4
          have r := (RI.of_own o3.out).below hb4
          have Z := Lib.hid (same_true _ _ _ _ (by omega) r4 r)
          have oo := Lib.hid (o3.out.kept (grown_below (r := none) hb4 rfl) (by cases Value.ownBlock (Value.slice va (waitK L L.length).length vc) <;> simp))
          have hh := Lib.hid (h3.out.below hb4)
          have bb := Lib.hid (b3.out.trans (hb4.mono b3.out.size))
          clear ho4 hb4 r4 r X4 h3 b3 o3
          go_wp2_with fail
          refine Z.out.mono ?_
          rintro e w' ⟨rfl, nd, rfl⟩
          have h4 := Lib.hid (hh.out.drewN nd)
          have b4 := Lib.hid (below_drewN bb.out nd)
          have o4 := Lib.hid (oo.out.kept (grown_drewN (grown_refl _ none) nd) (by cases Value.ownBlock (Value.slice va (waitK L L.length).length vc) <;> simp))
          clear oo hh bb Z
          generalize World.drewN _ nd = wz4 at *
          go_wp2_with fail
          go_ret
          exact ⟨rfl, b4.out⟩
        · have i1 : isB L k 1 = false := by rw [iB, hs]; rfl
          have i2 : isB L k 2 = true := by rw [iB, hs]; rfl
          have hS := Lib.hid (show L = L.set k 2 by have := set_self L k hkl; rw [hs] at this; exact this.symm)
          replace hs := Lib.hid hs
          clear iB
          have hkl' : ∀ x, k < (L.set k x).length := fun x => by rw [List.length_set]; exact hkl
          replace hkl' := Lib.hid hkl'
          go_wp2_with fail
          refine T.out.mono ?_
          rintro e w' ⟨rfl, rfl⟩
          go_wp2_with fail
          refine P.out.mono ?_
          rintro e w' ⟨rfl, rfl⟩
          clear T P
          replace h1 : Hid (Par w4 p g (L.set k 2)) := by rw [← hS.out]; exact h1
          have X2 := unpark_any p g k _ _ h1.out
          rw [show isB (L.set k 2) k 1 = false from by rw [isB_in _ _ (hkl'.out _), getD_self L k _ hkl]; rfl] at X2
          rw [show unC (L.set k 2) k = 0 from unC_ok (okT_in (hkl'.out _))] at X2
          replace X2 := Lib.hid X2
          go_wp2_with fail
          refine X2.out.mono ?_
          rintro e w12 ⟨rfl, h2, hg2⟩
          replace h2 : Hid (Par w12 p g (L.set k 2)) := by rw [unS_eq _ _ (hkl'.out _), getD_self L k _ hkl, List.set_set] at h2; exact h2
          have b2 := Lib.hid (below_grown b1.out hg2 b1.out.size hg)
          have o2 := Lib.hid (o1.out.kept hg2 (.inr (fun e => by have := (o1.out.lt _ e).1; omega)))
          clear hg2 X2 h1 b1 o1
          have Y := token_any p g k _ _ h2.out
          rw [show isB (L.set k 2) k 2 = true from by rw [isB_in _ _ (hkl'.out _), getD_self L k _ hkl]; rfl] at Y
          replace Y := Lib.hid Y
          go_wp2_with fail
          refine Y.out.mono ?_
          rintro e w' ⟨rfl, rfl⟩
          clear Y
          have X3 := waiting_any p g _ _ h2.out
          rw [show waitK (L.set k 2) (L.set k 2).length = waitK L L.length from by rw [List.length_set, ← hS.out]] at X3
          replace X3 := Lib.hid X3
          go_wp2_with fail
          refine X3.out.mono ?_
          rintro e w13 ⟨v3, rfl, ho3, hb3⟩
          have r3 := RI.of_own ho3
          have r := (RI.of_own o2.out).below hb3
          have Z := Lib.hid (same_true _ _ _ _ (by omega) r3 r)
          have oo := Lib.hid (o2.out.kept (grown_below (r := none) hb3 rfl) (by cases Value.ownBlock (Value.slice va (waitK L L.length).length vc) <;> simp))
          have hh := Lib.hid (h2.out.below hb3)
          have bb := Lib.hid (b2.out.trans (hb3.mono b2.out.size))
          clear ho3 hb3 r3 r X3 h2 b2 o2
          go_wp2_with fail
          refine Z.out.mono ?_
          rintro e w' ⟨rfl, nd, rfl⟩
          have h3 := Lib.hid (hh.out.drewN nd)
          have b3 := Lib.hid (below_drewN bb.out nd)
          have o3 := Lib.hid (oo.out.kept (grown_drewN (grown_refl _ none) nd) (by cases Value.ownBlock (Value.slice va (waitK L L.length).length vc) <;> simp))
          clear oo hh bb Z
          generalize World.drewN _ nd = wz3 at *
          have X4 := drop_any p g k _ _ h3.out
          rw [show isB (L.set k 2) k 2 = true from by rw [isB_in _ _ (hkl'.out _), getD_self L k _ hkl]; rfl] at X4
          replace X4 := Lib.hid X4
          go_wp2_with fail
          refine X4.out.mono ?_
          rintro e w14 ⟨rfl, h4, hg4⟩
          replace h4 : Hid (Par w14 p g (L.set k 0)) := by rw [dropS_eq _ _ (hkl'.out _), getD_self L k _ hkl, List.set_set] at h4; exact h4
          have b4 := Lib.hid (below_grown b3.out hg4 b3.out.size hg)
          have o4 := Lib.hid (o3.out.kept hg4 (.inr (fun e => by have := (o3.out.lt _ e).1; omega)))
          clear hg4 X4 h3 b3 o3
          have Y := token_any p g k _ _ h4.out
          rw [show isB (L.set k 0) k 2 = false from by rw [isB_in _ _ (hkl'.out _), getD_self L k _ hkl]; rfl] at Y
          replace Y := Lib.hid Y
          go_wp2_with fail
          refine Y.out.mono ?_
          rintro e w' ⟨rfl, rfl⟩
          clear Y
          have X5 := drop_any p g k _ _ h4.out
          rw [show isB (L.set k 0) k 2 = false from by rw [isB_in _ _ (hkl'.out _), getD_self L k _ hkl]; rfl] at X5
          replace X5 := Lib.hid X5
          go_wp2_with fail
          refine X5.out.mono ?_
          rintro e w15 ⟨rfl, h5, hg5⟩
          replace h5 : Hid (Par w15 p g (L.set k 0)) := by rw [dropS_eq _ _ (hkl'.out _), getD_self L k _ hkl, List.set_set] at h5; exact h5
          have b5 := Lib.hid (below_grown b4.out hg5 b4.out.size hg)
          have o5 := Lib.hid (o4.out.kept hg5 (.inr (fun e => by have := (o4.out.lt _ e).1; omega)))
          clear hg5 X5 h4 b4 o4
          go_wp2_with fail
          go_ret
          exact ⟨rfl, b5.out⟩
end Go.Proofs.Ytioaghkafomibaa
