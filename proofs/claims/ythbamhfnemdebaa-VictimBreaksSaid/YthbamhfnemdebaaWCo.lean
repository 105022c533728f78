/-
  Equal edges beside one another struck: slices.Compact at edges. No condition beside a slice of the call's own.
-/
import Derived.Test.YthbamhfnemdebaaWSo
namespace Go.Proofs.Ythbamhfnemdebaa
open Go.RowKit
def kp (l : List Ed) (j : Nat) : Bool := j == 0 || l.getD j default != l.getD (j - 1) default
def ck (l : List Ed) (m : Nat) : List Ed := ((List.range m).filter (kp l)).map fun j => l.getD j default
theorem ck_succ (l : List Ed) (m : Nat) : ck l (m + 1) = ck l m ++ (if kp l m then [l.getD m default] else []) := by
  unfold ck
  rw [List.range_succ, List.filter_append, List.map_append]
  congr 1
  cases h : kp l m <;> simp [h]
theorem ck_len (l : List Ed) (m : Nat) : (ck l m).length ≤ m := by
  unfold ck
  rw [List.length_map]
  exact Nat.le_trans (List.length_filter_le _ _) (by simp)
theorem ck_all (l : List Ed) : ∀ m, m ≤ l.length → (∀ j, j < m → kp l j = true) → ck l m = l.take m
  | 0, _, _ => rfl
  | m + 1, hm, h => by
    rw [ck_succ, h m (by omega), if_pos rfl, ck_all l m (by omega) (fun j hj => h j (by omega)), List.take_succ_eq_append_getElem (by omega)]
    simp [List.getD, show m < l.length by omega]
def cpE (l : List Ed) : List Ed := ck l l.length
set_option maxHeartbeats 4000000 in
set_option maxRecDepth 100000 in
theorem compactE_any (a : Option Addr) (n c : Nat) (xs : List Ed) (w : World) (rs : List Res) (hS : Sep w (vec 29 2 (.slice a n c) n (xs.flatMap Ed.cells) :: rs)) (hl : xs.length = n) (hn : n ≤ 100000) :
    Calls Try.prog 45 #[.slice a n c] w fun e w' => e = .returned (.slice a (cpE xs).length c) ∧ Sep w' (vec 29 2 (.slice a (cpE xs).length c) (cpE xs).length ((cpE xs).flatMap Ed.cells) :: rs) := by
  by_cases h2 : n < 2
  · have hall : cpE xs = xs := by
      unfold cpE
      have h0 : ∀ j, j < xs.length → kp xs j = true := by
        intro j hj
        obtain rfl : j = 0 := by omega
        rfl
      rw [ck_all xs _ (Nat.le_refl _) h0, List.take_length]
    rw [hall]
    have i1 : (n : Int) < 2 := by omega
    subst hl
    replace hS := Lib.hid hS
    clear hall
    go_enter Try.func45, Try.ntmps45
    go_wp2_with fail
    go_ret
    exact ⟨rfl, hS.out⟩
  · have i1 : ¬ (n : Int) < 2 := by omega
    obtain ⟨g, rfl, _, hnc, _, _⟩ := hS.vec_at ed_len hl (show 0 < n by omega)
    obtain ⟨R, hR⟩ : ∃ R, cpE xs = R := ⟨_, rfl⟩
    have hRe := Lib.hid (show ck xs n = R by rw [← hR]; unfold cpE; rw [hl])
    have hRa := Lib.hid (fun (h : ∀ j, j < n → kp xs j = true) => (show R = xs by rw [← hR]; unfold cpE; rw [hl, ck_all xs n (by omega) h, ← hl, List.take_length]))
    rw [hR]
    clear hR
    have hcs := Lib.hid (fun m => ck_succ xs m)
    have hcl0 := Lib.hid (fun m => ck_len xs m)
    have hca := Lib.hid (fun m h1 h2 => ck_all xs m h1 h2)
    replace hl := Lib.hid hl
    replace hS := Lib.hid hS
    have h0 : Hid (∀ j, j < 1 → kp xs j = true) := Lib.hid (by
      intro j hj
      obtain rfl : j = 0 := by omega
      rfl)
    clear h2
    go_enter Try.func45, Try.ntmps45
    go_wp2_with fail
    go_loopw [3] (fun x wr => ∃ k : Nat, 1 ≤ k ∧ k ≤ n ∧ x = .int .i64 k ∧ Hid (∀ j, j < k → kp xs j = true) ∧ Hid (Sep wr (vec 29 2 (.slice (some ⟨g, 0, none⟩) n c) n (xs.flatMap Ed.cells) :: rs))) (fun x _ => n - (intOf x).toNat)
    case atStart => exact ⟨1, by omega, by omega, rfl, h0, hS⟩
    case round =>
      clear hS
      obtain ⟨k, hk1, hk, rfl, hok, hS⟩ := hrel
      by_cases hlt : k < n
      · obtain ⟨p, hkp⟩ : ∃ p, k = p + 1 := ⟨k - 1, by omega⟩
        obtain ⟨g', hg', _, _, zz, _⟩ := hS.out.vec_at ed_len hl.out hlt
        injection hg' with hg'
        injection hg' with hg'
        subst hg'
        obtain ⟨g', hg', _, _, yy, _⟩ := hS.out.vec_at ed_len hl.out (show p < n by omega)
        injection hg' with hg'
        injection hg' with hg'
        subst hg'
        have z0 := zz 0 _ rfl
        have z1 := zz 1 _ rfl
        have y0 := yy 0 _ rfl
        have y1 := yy 1 _ rfl
        simp only [Nat.add_zero] at z0 y0
        have hkk := Lib.hid (show kp xs k = (xs.getD k default != xs.getD p default) by unfold kp; rw [hkp]; rfl)
        have hsub : (k : Int) - 1 = (p : Int) := by omega
        have hsw : IntKind.i64.wrap (p : Int) = (p : Int) := IntWalk.i64_in _ (by omega)
        have i2 : (0 : Int) ≤ (k : Int) := by omega
        have i3 : (k : Int) < (n : Int) := by omega
        have i4 : (0 : Int) ≤ (p : Int) := by omega
        have i5 : (p : Int) < (n : Int) := by omega
        replace hkp := Lib.hid hkp
        clear zz yy
        by_cases heq : xs.getD k default = xs.getD p default
        · have hkf := Lib.hid (show kp xs k = false by rw [hkk.out, heq]; simp)
          rw [heq] at z0 z1
          clear hkk heq
          generalize xs.getD p default = q at *
          obtain ⟨fr, to⟩ := q
          simp only at z0 z1 y0 y1
          have heb : eqB_ed fr fr to to = true := by rw [eqB_ed_iff]; simp
          have hqe := fun W => run_eql_ed fr fr to to W
          rw [heb] at hqe
          have hkt := Lib.hid (hca.out k (by rw [hl.out]; omega) hok.out)
          have c1 : ¬ c = k := by omega
          have i6 : (k : Int) ≤ (n : Int) := by omega
          have i7 : (n : Int) ≤ (c : Int) := by omega
          clear heb
          go_wp2_with fail
          go_quiet (fail)
          go_wp2_with fail
          replace hS := Lib.hid (hS.out.drewN nq)
          have hinit := Lib.hid (show xs.take k = ck xs (k + 1) by rw [ck_succ, hkf.out, if_neg (by simp), List.append_nil, hkt.out])
          clear z0 z1 y0 y1 hqe hkt hkf
          generalize wr.drewN nq = wr at *
          go_loopg [3, 5] (n - k - 1) (fun gm s3 s5 W => ∃ (m J : Nat) (cur : List Ed), 1 ≤ J ∧ J ≤ n - k ∧ m < k + J ∧ gm = n - k - J ∧ s3 = .int .i64 m ∧ s5 = .int .i64 J ∧ Hid (cur.length = n) ∧ Hid (cur.take m = ck xs (k + J)) ∧ Hid (m = (ck xs (k + J)).length) ∧ Hid (cur.drop (k + J - 1) = xs.drop (k + J - 1)) ∧ Hid (Sep W (vec 29 2 (.slice (some ⟨g, 0, none⟩) n c) n (cur.flatMap Ed.cells) :: rs)))
          case atStart => exact ⟨k, 1, xs, by omega, by omega, by omega, by omega, rfl, rfl, hl, hinit, Lib.hid (by rw [← hinit.out, List.length_take, hl.out]; omega), Lib.hid rfl, hS⟩
          case round =>
            clear hS hinit hok
            obtain ⟨m, J, cur, hJ1, hJ, hmJ, hg, rfl, rfl, hcl, hct, hci, hcd, hS⟩ := hrel
            by_cases hJn : J < n - k
            · obtain ⟨t, hJt⟩ : ∃ t, J = t + 1 := ⟨J - 1, by omega⟩
              have hq1 : cur.getD (k + J) default = xs.getD (k + J) default := by
                have h1 := congrArg (fun x : List Ed => x.getD 1 default) hcd.out
                simpa [List.getD, show k + J - 1 + 1 = k + J by omega] using h1
              have hq0 : cur.getD (k + t) default = xs.getD (k + t) default := by
                have h1 := congrArg (fun x : List Ed => x.getD 0 default) hcd.out
                simpa [List.getD, show k + J - 1 = k + t by omega] using h1
              replace hq1 := Lib.hid hq1
              replace hq0 := Lib.hid hq0
              obtain ⟨g', hg', _, _, zz, _⟩ := hS.out.vec_at ed_len hcl.out (show k + J < n by omega)
              injection hg' with hg'
              injection hg' with hg'
              subst hg'
              obtain ⟨g', hg', _, _, yy, _⟩ := hS.out.vec_at ed_len hcl.out (show k + t < n by omega)
              injection hg' with hg'
              injection hg' with hg'
              subst hg'
              rw [hq1.out] at zz
              rw [hq0.out] at yy
              have z0 := zz 0 _ rfl
              have z1 := zz 1 _ rfl
              have y0 := yy 0 _ rfl
              have y1 := yy 1 _ rfl
              simp only [Nat.add_zero, Nat.add_mul] at z0 y0 z1 y1
              have hkk := Lib.hid (show kp xs (k + J) = (xs.getD (k + J) default != xs.getD (k + t) default) by
                unfold kp
                rw [show k + J - 1 = k + t by omega, show (k + J == 0) = false by rw [beq_eq_false_iff_ne]; omega]
                rfl)
              have hsn := Lib.hid (ck_succ xs (k + J))
              have hcd' := Lib.hid (show cur.drop (k + (J + 1) - 1) = xs.drop (k + (J + 1) - 1) by
                have h := congrArg (List.drop 1) hcd.out
                simp only [List.drop_drop] at h
                rw [show k + (J + 1) - 1 = k + J - 1 + 1 by omega]
                exact h)
              have hsub : (J : Int) - 1 = (t : Int) := by omega
              have hsw : IntKind.i64.wrap (t : Int) = (t : Int) := IntWalk.i64_in _ (by omega)
              have i2 : (0 : Int) ≤ (J : Int) := by omega
              have i3 : (J : Int) < ((n - k : Nat) : Int) := by omega
              have i4 : (0 : Int) ≤ (t : Int) := by omega
              have i5 : (t : Int) < ((n - k : Nat) : Int) := by omega
              replace hJt := Lib.hid hJt
              clear zz yy hcd hq0 hq1
              by_cases heq : xs.getD (k + J) default = xs.getD (k + t) default
              · have hkf := Lib.hid (show kp xs (k + J) = false by rw [hkk.out, heq]; simp)
                rw [hkf.out] at hsn
                simp only [Bool.false_eq_true, if_false, List.append_nil] at hsn
                rw [heq] at z0 z1
                clear hkk heq hkf
                generalize xs.getD (k + t) default = q at *
                obtain ⟨fr, to⟩ := q
                simp only at z0 z1 y0 y1
                have heb : eqB_ed fr fr to to = true := by rw [eqB_ed_iff]; simp
                have hqe := fun W => run_neq_ed fr fr to to W
                rw [heb] at hqe
                simp only [Bool.not_true] at hqe
                clear heb
                go_wp2_with fail
                go_quiet (fail)
                go_wp2_with fail
                replace hS := Lib.hid (hS.out.drewN nq)
                go_roundg (n - k - (J + 1))
                case measure => omega
                case rel => exact ⟨m, J + 1, cur, by omega, by omega, by omega, rfl, rfl, by go_num, hcl, Lib.hid (by rw [hct.out, ← Nat.add_assoc, hsn.out]), Lib.hid (by rw [← Nat.add_assoc, hsn.out]; exact hci.out), hcd', hS⟩
              · have hkt := Lib.hid (show kp xs (k + J) = true by rw [hkk.out]; simpa using heq)
                rw [hkt.out] at hsn
                simp only [if_true] at hsn
                clear hkk hkt
                generalize xs.getD (k + t) default = q at *
                generalize xs.getD (k + J) default = r at *
                have hput := Lib.hid (fun W (h : Sep W (vec 29 2 (.slice (some ⟨g, 0, none⟩) n c) n (cur.flatMap Ed.cells) :: rs)) => by
                  have h2 := Sep.vec_setN r.cells (m * 2) W _ h (by rw [ed_len, flat_len _ _ ed_len, hcl.out]; omega)
                  rw [flat_put ed_len cur m r (by rw [hcl.out]; omega)] at h2
                  exact h2)
                obtain ⟨fr, to⟩ := q
                obtain ⟨gr, so⟩ := r
                simp only at z0 z1 y0 y1
                simp only [Ed.cells, setW, Nat.add_assoc, Nat.reduceAdd] at hput
                obtain ⟨g', hg', hgl2, _, xx, hfz⟩ := hS.out.vec_at ed_len hcl.out (show m < n by omega)
                injection hg' with hg'
                injection hg' with hg'
                subst hg'
                have hcx : ∀ f, f < 2 → ∃ u, wr.cell? ⟨g, m * 2 + f, none⟩ = some u := fun f hf => by
                  obtain ⟨u, hu⟩ : ∃ u, (Ed.cells (cur.getD m default))[f]? = some u := ⟨_, List.getElem?_eq_getElem (by rw [ed_len]; exact hf)⟩
                  exact ⟨u, xx f u hu⟩
                obtain ⟨u0, x0⟩ := hcx 0 (by omega)
                have f0 := hfz (m * 2)
                obtain ⟨u1, x1⟩ := hcx 1 (by omega)
                have f1 := hfz (m * 2 + 1)
                rw [Nat.add_zero] at x0
                have heb : eqB_ed gr fr so to = false := by
                  rw [eqB_ed_iff, decide_eq_false_iff_not]
                  rintro ⟨rfl, rfl⟩
                  exact heq rfl
                have hqe := fun W => run_neq_ed gr fr so to W
                rw [heb] at hqe
                simp only [Bool.not_false] at hqe
                have i6 : (0 : Int) ≤ (m : Int) := by omega
                have i7 : (m : Int) < (n : Int) := by omega
                clear heb heq hcx hfz xx
                go_wp2_with fail
                go_quiet (fail)
                go_wp2_with fail
                replace hS := Lib.hid (hput.out _ (hS.out.drewN nq))
                clear hput x0 x1 f0 f1
                go_roundg (n - k - (J + 1))
                case measure => omega
                case rel => exact ⟨m + 1, J + 1, cur.set m ⟨gr, so⟩, by omega, by omega, by omega, rfl, by go_num, by go_num, Lib.hid (by rw [List.length_set]; exact hcl.out), Lib.hid (by rw [← Nat.add_assoc, hsn.out, ← hct.out]; exact take_set_snocL cur m _ (by rw [hcl.out]; omega)), Lib.hid (by rw [← Nat.add_assoc, hsn.out, List.length_append, ← hci.out]; rfl), Lib.hid (by rw [List.drop_set_of_lt (by omega)]; exact hcd'.out), hS⟩
            · have hJ' : k + J = n := by omega
              have hJ2 : J = n - k := by omega
              rw [hJ', hRe.out] at hct hci
              have hi3 : m < n := by omega
              obtain ⟨g', hg', _, hmc, _⟩ := hS.out.vec_at ed_len hcl.out hi3
              have j3 : (0 : Int) ≤ (m : Int) := by omega
              have j4 : (m : Int) < (n : Int) := by omega
              have j5 : (m : Int) ≤ (c : Int) := by omega
              clear hg' hJ'
              go_wp2_with (refine wpList_clear_sep hS.out (by kernel_rfl) (.tmp 56) 22 (by rfl) _ Try.underlying22 dzero_ed dsize_ed done_ed m hi3 (c - m) (by rfl) ?_)
              intro w3 ys hS3
              have hS4 := hS3.vec_shrink (k := m) (by omega)
              have hq : ((cur.flatMap Ed.cells).take (m * 2) ++ ys).take (m * 2) = R.flatMap Ed.cells := by
                rw [List.take_append_of_le_length (by rw [List.length_take, flat_len _ _ ed_len, hcl.out]; omega), List.take_take, Nat.min_self, flat_take _ _ ed_len _ _ (by rw [hcl.out]; omega), hct.out]
              rw [hq] at hS4
              replace hS4 := Lib.hid hS4
              clear hS3 hq hS
              go_wp2_with fail
              go_ret
              exact ⟨by rw [← hci.out]; rfl, by rw [← hci.out]; exact hS4.out⟩
        · have hkt := Lib.hid (show kp xs k = true by rw [hkk.out]; simpa using heq)
          have hok2 : Hid (∀ j, j < k + 1 → kp xs j = true) := Lib.hid (by
            intro j hj
            by_cases hjk : j = k
            · subst hjk; exact hkt.out
            · exact hok.out j (by omega))
          clear hkk hkt hok
          generalize xs.getD p default = q at *
          generalize xs.getD k default = r at *
          obtain ⟨fr, to⟩ := q
          obtain ⟨gr, so⟩ := r
          simp only at z0 z1 y0 y1
          have heb : eqB_ed gr fr so to = false := by
            rw [eqB_ed_iff, decide_eq_false_iff_not]
            rintro ⟨rfl, rfl⟩
            exact heq rfl
          have hqe := fun W => run_eql_ed gr fr so to W
          rw [heb] at hqe
          clear heb heq
          go_wp2_with fail
          go_quiet (fail)
          go_wp2_with fail
          go_roundw
          case rel => exact ⟨k + 1, by omega, by omega, by go_num, hok2, Lib.hid (hS.out.drewN _)⟩
          case measure => simp [intOf]; omega
      · have hkn : k = n := by omega
        have hRx : R = xs := hRa.out (fun j hj => hok.out j (by omega))
        subst hRx
        have hl2 := hl.out
        subst hkn
        go_wp2_with fail
        go_ret
        exact ⟨rfl, hS.out⟩
end Go.Proofs.Ythbamhfnemdebaa
