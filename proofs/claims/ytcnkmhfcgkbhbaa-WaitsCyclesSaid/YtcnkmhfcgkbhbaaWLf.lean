/-
  The walk of WaitsFree. No condition beside an argument that can be read.
-/
import Derived.Test.YtcnkmhfcgkbhbaaWLr
namespace Go.Proofs.Ytcnkmhfcgkbhbaa
open Go.RowKit
theorem cyc_len (L : List Ed) : (cyc L).1.length ≤ L.length + 1 := cycG_len L _
/-- Whether one that is waited for waits for nobody. -/
def freeB (L : List Ed) (l : List Ed) : Bool := l.any fun e => decide ((rcL L e.to).length = 0)
theorem freeB_snoc (L : List Ed) (i : Nat) (h : i < L.length) : freeB L (L.take (i + 1)) = (freeB L (L.take i) || decide ((rcL L (L.getD i default).to).length = 0)) := by
  have e : L.getD i default = L[i] := by simp [List.getD, h]
  unfold freeB
  rw [e, List.take_succ_eq_append_getElem h, List.any_append]
  simp
theorem freeB_ac (L : List Ed) (h0 : 0 < L.length) (h : freeB L L = false) : (cyc L).2 = true := by
  rcases cyc_cases L with ⟨_, h2⟩ | ⟨fr, h2, _⟩
  · exfalso
    obtain ⟨e, he, hr⟩ := free_ex L h2 _ (L[0]'h0) (List.getElem_mem h0) (Nat.le_refl _)
    unfold freeB at h
    rw [List.any_eq_false] at h
    exact h e he (by simp [hr])
  · rw [h2]; rfl
set_option maxHeartbeats 20000000 in
set_option maxRecDepth 100000 in
theorem free_walk (a : Option Addr) (len cap : Nat) (z : Nat → Nat → Int) (w : World) (hv0 : IsRows 2 w a len cap z) (hna : a = none → cap = 0) :
    Calls Try.prog 6 #[.slice a len cap] w fun e w' => e = .returned (.bool true) ∧ Below w.heap.size w w' := by
  have hv := Lib.hid (edL_rl hv0 hna)
  have hlen := edL_len len z
  clear hv0 hna
  generalize edL len z = L at *
  by_cases h40 : len ≤ 40
  · have i40 : ¬ ((40 : Int) < (len : Int)) := by omega
    by_cases h0 : len = 0
    · subst h0
      go_enter Try.func6, Try.ntmps6
      go_wp2_with fail
      refine (lives_any _).mono ?_
      rintro e w1 ⟨rfl, q⟩
      have hb := Lib.hid q
      clear q
      go_wp2_with fail
      go_ret
      exact ⟨rfl, hb.out⟩
    · have i0 : ¬ ((len : Int) = 0) := by omega
      have j0 : ((len : Int) == 0) = false := by simpa using h0
      have hl40 : L.length ≤ 1000 := by omega
      have HR := Lib.hid (fun q W (h : RL W (.slice a len cap) 2 L.length (L.flatMap Ed.cells)) => reachL_any (.slice a len cap) L q W h hl40)
      have HA := Lib.hid (fun W (h : RL W (.slice a len cap) 2 L.length (L.flatMap Ed.cells)) => acyclic_any (.slice a len cap) L W h hl40)
      have HC := Lib.hid (fun W (h : RL W (.slice a len cap) 2 L.length (L.flatMap Ed.cells)) => cycle_any (.slice a len cap) L W h hl40)
      have HW := Lib.hid (fun q W (h : RL W (.slice a len cap) 2 L.length (L.flatMap Ed.cells)) => without_any (.slice a len cap) L q W h hl40)
      have HC2 := Lib.hid (fun x v W (hx : rcL L x = []) (h : RL W v 2 (keepL (onE x) L).length ((keepL (onE x) L).flatMap Ed.cells)) => by
        have h2 := cycle_any v (keepL (onE x) L) W h (Nat.le_trans (keepL_len _ _) hl40)
        rw [cyc_out L x (rcL_none.1 hx)] at h2
        exact h2)
      have hcl := cyc_len L
      have hfs := Lib.hid (freeB_snoc L)
      have hfa := Lib.hid (freeB_ac L (by omega))
      have hcells := Lib.hid (fun W (h : RL W (.slice a len cap) 2 L.length (L.flatMap Ed.cells)) => cells_ed (by rw [hlen] at h; exact h) hlen (by omega))
      go_enter Try.func6, Try.ntmps6
      go_wp2_with fail
      refine (lives_any _).mono ?_
      rintro e w1 ⟨rfl, q⟩
      have hV := Lib.hid ((Sep.start w).below q)
      clear q
      go_wp2_with fail
      go_loopg [3, 4, 5] len (fun gm s3 s4 s5 W => ∃ (i : Nat) (fb : Bool) (la : Int), i ≤ len ∧ gm = len - i ∧ s3 = .bool fb ∧ s4 = .int .i64 la ∧ s5 = .int .i64 i ∧ Hid (fb = freeB L (L.take i)) ∧ Hid (fb = true → rcL L la = []) ∧ Hid (Sep W [old w]))
      case atStart => exact ⟨0, false, 0, Nat.zero_le _, rfl, rfl, rfl, rfl, Lib.hid rfl, Lib.hid (fun h => by cases h), hV⟩
      case round =>
        clear hV
        obtain ⟨i, fb, la, hi, hgm, rfl, rfl, rfl, hf, hla, hV⟩ := hrel
        by_cases hlt : i < len
        · obtain ⟨b, off, rfl, hbl, zz⟩ := hcells.out wr (hv.out.below hV.out.gold)
          have hil : i < L.length := by omega
          have hg : L[i]? = some (L.getD i default) := by rw [List.getElem?_eq_getElem hil]; simp [List.getD, hil]
          have z1 : wr.cell? ⟨b, off + i * 2 + 1, none⟩ = some (.int .i64 (L.getD i default).to) := zz i _ hg 1 _ rfl
          have hsn := Lib.hid (hfs.out i hil)
          rw [← hf.out] at hsn
          have HR1 := Lib.hid (HR.out (L.getD i default).to wr (hv.out.below hV.out.gold))
          clear zz hg
          obtain ⟨X, hX⟩ : ∃ X, Hid (rcL L (L.getD i default).to = X) := ⟨_, rfl⟩
          rw [hX.out] at HR1 hsn
          generalize (L.getD i default).to = to_ at *
          have i1 : (0 : Int) ≤ (i : Int) := by omega
          have i2 : (i : Int) < (len : Int) := by omega
          obtain ⟨nx, hnx⟩ : ∃ nx, Hid (X.length = nx) := ⟨_, rfl⟩
          rw [hnx.out] at HR1 hsn
          go_wp2_with fail
          refine HR1.out.mono ?_
          rintro e w2 ⟨ra, rc, rfl, q⟩
          have z2 := (q.tail.gold.cell (p := ⟨b, off + i * 2 + 1, none⟩) hbl).trans z1
          replace hV := Lib.hid (q.graft hV.out).tail
          clear q HR1
          by_cases hn0 : nx = 0
          · subst hn0
            have hemp := Lib.hid (show rcL L to_ = [] by rw [hX.out]; exact List.eq_nil_of_length_eq_zero hnx.out)
            go_wp2_with fail
            go_quiet (fail)
            go_wp2_with fail
            go_roundg (len - (i + 1))
            case measure => omega
            case rel => exact ⟨i + 1, true, to_, by omega, rfl, rfl, rfl, by go_num, Lib.hid (by rw [hsn.out]; simp), Lib.hid (fun _ => hemp.out), Lib.hid (hV.out.drewN _)⟩
          · have hn1 : ¬ (nx : Int) = 0 := by omega
            have hn2 : ((nx : Int) == 0) = false := by simpa using hn0
            go_wp2_with fail
            go_roundg (len - (i + 1))
            case measure => omega
            case rel => exact ⟨i + 1, fb, la, by omega, rfl, rfl, rfl, by go_num, Lib.hid (by rw [hsn.out]; simp [hn0]), hla, hV⟩
        · have hil : i = len := by omega
          rw [show L.take i = L by rw [hil, ← hlen, List.take_length]] at hf
          cases fb with
          | false =>
            have hc2 := hfa.out hf.out.symm
            have HA1 := Lib.hid (HA.out wr (hv.out.below hV.out.gold))
            rw [hc2] at HA1
            go_wp2_with fail
            refine HA1.out.mono ?_
            rintro e w2 ⟨rfl, q⟩
            replace hV := Lib.hid (hV.out.below q)
            clear q HA1
            go_wp2_with fail
            go_ret
            exact ⟨rfl, hV.out.gold⟩
          | true =>
            have hlx := hla.out rfl
            have HA1 := Lib.hid (HA.out wr (hv.out.below hV.out.gold))
            have HC3 := Lib.hid (fun v W h => HC2.out la v W hlx h)
            replace HC := Lib.hid HC.out
            obtain ⟨cc, hcc⟩ : ∃ cc, cyc L = cc := ⟨_, rfl⟩
            rw [hcc] at HA1 HC HC3 hcl
            obtain ⟨xs, ok⟩ := cc
            simp only at HA1 HC HC3 hcl
            obtain ⟨nc, hnc⟩ : ∃ nc, Hid (xs.length = nc) := ⟨_, rfl⟩
            simp only [hnc.out] at HC HC3 hcl
            replace HC := Lib.hid HC.out
            replace HC3 := Lib.hid HC3.out
            clear hcc hfa HC2
            cases ok with
            | false =>
              go_wp2_with fail
              refine HA1.out.mono ?_
              rintro e w2 ⟨rfl, q⟩
              replace hV := Lib.hid (hV.out.below q)
              clear q HA1
              go_wp2_with fail
              refine (HC.out _ (hv.out.below hV.out.gold)).mono ?_
              rintro e w3 ⟨ca, cp, rfl, q⟩
              replace hV := Lib.hid (q.graft hV.out)
              clear q HC
              go_wp2_with fail
              refine (HW.out la _ (hv.out.below hV.out.tail.gold)).mono ?_
              rintro e w4 ⟨wa, wc, rfl, q⟩
              replace hV := Lib.hid (q.graft hV.out)
              clear q HW
              go_wp2_with fail
              refine (HC3.out _ _ hV.out.vec_rl).mono ?_
              rintro e w5 ⟨cb, cq, rfl, q⟩
              replace hV := Lib.hid (q.graft hV.out)
              clear q HC3
              go_wp2_with fail
              refine (same_true _ _ xs _ (by have := hnc.out; omega) hV.out.to2.vec_ri hV.out.vec_ri).mono ?_
              rintro e w6 ⟨rfl, m, rfl⟩
              replace hV := Lib.hid (hV.out.drewN m)
              go_wp2_with fail
              go_ret
              exact ⟨rfl, (hV.out.bring 3 rfl).gold⟩
            | true =>
              go_wp2_with fail
              refine HA1.out.mono ?_
              rintro e w2 ⟨rfl, q⟩
              replace hV := Lib.hid (hV.out.below q)
              clear q HA1
              go_wp2_with fail
              refine (HC.out _ (hv.out.below hV.out.gold)).mono ?_
              rintro e w3 ⟨ca, cp, rfl, q⟩
              replace hV := Lib.hid (q.graft hV.out)
              clear q HC
              go_wp2_with fail
              refine (HW.out la _ (hv.out.below hV.out.tail.gold)).mono ?_
              rintro e w4 ⟨wa, wc, rfl, q⟩
              replace hV := Lib.hid (q.graft hV.out)
              clear q HW
              go_wp2_with fail
              refine (HC3.out _ _ hV.out.vec_rl).mono ?_
              rintro e w5 ⟨cb, cq, rfl, q⟩
              replace hV := Lib.hid (q.graft hV.out)
              clear q HC3
              go_wp2_with fail
              refine (same_true _ _ xs _ (by have := hnc.out; omega) hV.out.to2.vec_ri hV.out.vec_ri).mono ?_
              rintro e w6 ⟨rfl, m, rfl⟩
              replace hV := Lib.hid (hV.out.drewN m)
              go_wp2_with fail
              go_ret
              exact ⟨rfl, (hV.out.bring 3 rfl).gold⟩
  · have i40 : (40 : Int) < (len : Int) := by omega
    go_enter Try.func6, Try.ntmps6
    go_wp2_with fail
    refine (lives_any _).mono ?_
    rintro e w1 ⟨rfl, q⟩
    have hb := Lib.hid q
    clear q
    go_wp2_with fail
    go_ret
    exact ⟨rfl, hb.out⟩
end Go.Proofs.Ytcnkmhfcgkbhbaa
