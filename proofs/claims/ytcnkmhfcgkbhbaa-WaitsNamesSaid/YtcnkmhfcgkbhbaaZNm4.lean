/-
  Contracts and plain laws that the walk leans on, part 4. No condition.
-/
import Derived.Test.YtcnkmhfcgkbhbaaZNm3
import Derived.Deep.AppendSrc
namespace Go.Proofs.Ytcnkmhfcgkbhbaa
set_option linter.unusedSimpArgs false
set_option linter.unusedVariables false
set_option linter.unnecessarySimpa false
open Go.RowKit
def kp (l : List Ed) (j : Nat) : Bool := j == 0 || l.getD j default != l.getD (j - 1) default
def ck (l : List Ed) (m : Nat) : List Ed := ((List.range m).filter (kp l)).map fun j => l.getD j default
theorem ck_succ (l : List Ed) (m : Nat) : ck l (m + 1) = ck l m ++ (if kp l m then [l.getD m default] else []) := by
  unfold ck
  rw [List.range_succ, List.filter_append, List.map_append]
  congr 1
  cases h : kp l m <;> simp [h]
theorem ck_len (l : List Ed) (m : Nat) : (ck l m).length ≤ m := by
  unfold ck
  rw [List.length_map]
  exact Nat.le_trans (List.length_filter_le _ _) (by simp)
theorem ck_all (l : List Ed) : ∀ m, m ≤ l.length → (∀ j, j < m → kp l j = true) → ck l m = l.take m
  | 0, _, _ => rfl
  | m + 1, hm, h => by
    rw [ck_succ, h m (by omega), if_pos rfl, ck_all l m (by omega) (fun j hj => h j (by omega)), List.take_succ_eq_append_getElem (by omega)]
    simp [List.getD, show m < l.length by omega]
def cpE (l : List Ed) : List Ed := ck l l.length
set_option maxHeartbeats 4000000 in
set_option maxRecDepth 100000 in
theorem compactE_any (a : Option Addr) (n c : Nat) (xs : List Ed) (w : World) (rs : List Res) (hS : Sep w (vec 41 2 (.slice a n c) n (xs.flatMap Ed.cells) :: rs)) (hl : xs.length = n) (hn : n ≤ 100000) :
    Calls Try.prog 42 #[.slice a n c] w fun e w' => e = .returned (.slice a (cpE xs).length c) ∧ Sep w' (vec 41 2 (.slice a (cpE xs).length c) (cpE xs).length ((cpE xs).flatMap Ed.cells) :: rs) := by
  by_cases h2 : n < 2
  · have hall : cpE xs = xs := by
      unfold cpE
      have h0 : ∀ j, j < xs.length → kp xs j = true := by
        intro j hj
        obtain rfl : j = 0 := by omega
        rfl
      rw [ck_all xs _ (Nat.le_refl _) h0, List.take_length]
    rw [hall]
    have i1 : (n : Int) < 2 := by omega
    subst hl
    replace hS := Lib.hid hS
    clear hall
    go_enter Try.func42, Try.ntmps42
    go_wp2_with fail
    go_ret
    exact ⟨rfl, hS.out⟩
  · have i1 : ¬ (n : Int) < 2 := by omega
    obtain ⟨g, rfl, _, hnc, _, _⟩ := hS.vec_at ed_len hl (show 0 < n by omega)
    obtain ⟨R, hR⟩ : ∃ R, cpE xs = R := ⟨_, rfl⟩
    have hRe := Lib.hid (show ck xs n = R by rw [← hR]; unfold cpE; rw [hl])
    have hRa := Lib.hid (fun (h : ∀ j, j < n → kp xs j = true) => (show R = xs by rw [← hR]; unfold cpE; rw [hl, ck_all xs n (by omega) h, ← hl, List.take_length]))
    rw [hR]
    clear hR
    have hcs := Lib.hid (fun m => ck_succ xs m)
    have hcl0 := Lib.hid (fun m => ck_len xs m)
    have hca := Lib.hid (fun m h1 h2 => ck_all xs m h1 h2)
    replace hl := Lib.hid hl
    replace hS := Lib.hid hS
    have h0 : Hid (∀ j, j < 1 → kp xs j = true) := Lib.hid (by
      intro j hj
      obtain rfl : j = 0 := by omega
      rfl)
    clear h2
    go_enter Try.func42, Try.ntmps42
    go_wp2_with fail
    go_loopw [3] (fun x wr => ∃ k : Nat, 1 ≤ k ∧ k ≤ n ∧ x = .int .i64 k ∧ Hid (∀ j, j < k → kp xs j = true) ∧ Hid (Sep wr (vec 41 2 (.slice (some ⟨g, 0, none⟩) n c) n (xs.flatMap Ed.cells) :: rs))) (fun x _ => n - (intOf x).toNat)
    case atStart => exact ⟨1, by omega, by omega, rfl, h0, hS⟩
    case round =>
      clear hS
      obtain ⟨k, hk1, hk, rfl, hok, hS⟩ := hrel
      by_cases hlt : k < n
      · obtain ⟨p, hkp⟩ : ∃ p, k = p + 1 := ⟨k - 1, by omega⟩
        obtain ⟨g', hg', _, _, zz, _⟩ := hS.out.vec_at ed_len hl.out hlt
        injection hg' with hg'
        injection hg' with hg'
        subst hg'
        obtain ⟨g', hg', _, _, yy, _⟩ := hS.out.vec_at ed_len hl.out (show p < n by omega)
        injection hg' with hg'
        injection hg' with hg'
        subst hg'
        have z0 := zz 0 _ rfl
        have z1 := zz 1 _ rfl
        have y0 := yy 0 _ rfl
        have y1 := yy 1 _ rfl
        simp only [Nat.add_zero] at z0 y0
        have hkk := Lib.hid (show kp xs k = (xs.getD k default != xs.getD p default) by unfold kp; rw [hkp]; rfl)
        have hsub : (k : Int) - 1 = (p : Int) := by omega
        have hsw : IntKind.i64.wrap (p : Int) = (p : Int) := IntWalk.i64_in _ (by omega)
        have i2 : (0 : Int) ≤ (k : Int) := by omega
        have i3 : (k : Int) < (n : Int) := by omega
        have i4 : (0 : Int) ≤ (p : Int) := by omega
        have i5 : (p : Int) < (n : Int) := by omega
        replace hkp := Lib.hid hkp
        clear zz yy
        by_cases heq : xs.getD k default = xs.getD p default
        · have hkf := Lib.hid (show kp xs k = false by rw [hkk.out, heq]; simp)
          rw [heq] at z0 z1
          clear hkk heq
          generalize xs.getD p default = q at *
          obtain ⟨fr, tgt⟩ := q
          simp only at z0 z1 y0 y1
          have heb : eqB_ed fr fr tgt tgt = true := by rw [eqB_ed_iff]; simp
          have hqe := fun W => run_eql_ed fr fr tgt tgt W
          rw [heb] at hqe
          have hkt := Lib.hid (hca.out k (by rw [hl.out]; omega) hok.out)
          have c1 : ¬ c = k := by omega
          have i6 : (k : Int) ≤ (n : Int) := by omega
          have i7 : (n : Int) ≤ (c : Int) := by omega
          clear heb
          go_wp2_with fail
          go_quiet (fail)
          go_wp2_with fail
          replace hS := Lib.hid (hS.out.drewN nq)
          have hinit := Lib.hid (show xs.take k = ck xs (k + 1) by rw [ck_succ, hkf.out, if_neg (by simp), List.append_nil, hkt.out])
          clear z0 z1 y0 y1 hqe hkt hkf
          generalize wr.drewN nq = wr at *
          go_loopg [3, 5] (n - k - 1) (fun gm s3 s5 W => ∃ (m J : Nat) (cur : List Ed), 1 ≤ J ∧ J ≤ n - k ∧ m < k + J ∧ gm = n - k - J ∧ s3 = .int .i64 m ∧ s5 = .int .i64 J ∧ Hid (cur.length = n) ∧ Hid (cur.take m = ck xs (k + J)) ∧ Hid (m = (ck xs (k + J)).length) ∧ Hid (cur.drop (k + J - 1) = xs.drop (k + J - 1)) ∧ Hid (Sep W (vec 41 2 (.slice (some ⟨g, 0, none⟩) n c) n (cur.flatMap Ed.cells) :: rs)))
          case atStart => exact ⟨k, 1, xs, by omega, by omega, by omega, by omega, rfl, rfl, hl, hinit, Lib.hid (by rw [← hinit.out, List.length_take, hl.out]; omega), Lib.hid rfl, hS⟩
          case round =>
            clear hS hinit hok
            obtain ⟨m, J, cur, hJ1, hJ, hmJ, hg, rfl, rfl, hcl, hct, hci, hcd, hS⟩ := hrel
            by_cases hJn : J < n - k
            · obtain ⟨t, hJt⟩ : ∃ t, J = t + 1 := ⟨J - 1, by omega⟩
              have hq1 : cur.getD (k + J) default = xs.getD (k + J) default := by
                have h1 := congrArg (fun x : List Ed => x.getD 1 default) hcd.out
                simpa [List.getD, show k + J - 1 + 1 = k + J by omega] using h1
              have hq0 : cur.getD (k + t) default = xs.getD (k + t) default := by
                have h1 := congrArg (fun x : List Ed => x.getD 0 default) hcd.out
                simpa [List.getD, show k + J - 1 = k + t by omega] using h1
              replace hq1 := Lib.hid hq1
              replace hq0 := Lib.hid hq0
              obtain ⟨g', hg', _, _, zz, _⟩ := hS.out.vec_at ed_len hcl.out (show k + J < n by omega)
              injection hg' with hg'
              injection hg' with hg'
              subst hg'
              obtain ⟨g', hg', _, _, yy, _⟩ := hS.out.vec_at ed_len hcl.out (show k + t < n by omega)
              injection hg' with hg'
              injection hg' with hg'
              subst hg'
              rw [hq1.out] at zz
              rw [hq0.out] at yy
              have z0 := zz 0 _ rfl
              have z1 := zz 1 _ rfl
              have y0 := yy 0 _ rfl
              have y1 := yy 1 _ rfl
              simp only [Nat.add_zero, Nat.add_mul] at z0 y0 z1 y1
              have hkk := Lib.hid (show kp xs (k + J) = (xs.getD (k + J) default != xs.getD (k + t) default) by
                unfold kp
                rw [show k + J - 1 = k + t by omega, show (k + J == 0) = false by rw [beq_eq_false_iff_ne]; omega]
                rfl)
              have hsn := Lib.hid (ck_succ xs (k + J))
              have hcd' := Lib.hid (show cur.drop (k + (J + 1) - 1) = xs.drop (k + (J + 1) - 1) by
                have h := congrArg (List.drop 1) hcd.out
                simp only [List.drop_drop] at h
                rw [show k + (J + 1) - 1 = k + J - 1 + 1 by omega]
                exact h)
              have hsub : (J : Int) - 1 = (t : Int) := by omega
              have hsw : IntKind.i64.wrap (t : Int) = (t : Int) := IntWalk.i64_in _ (by omega)
              have i2 : (0 : Int) ≤ (J : Int) := by omega
              have i3 : (J : Int) < ((n - k : Nat) : Int) := by omega
              have i4 : (0 : Int) ≤ (t : Int) := by omega
              have i5 : (t : Int) < ((n - k : Nat) : Int) := by omega
              replace hJt := Lib.hid hJt
              clear zz yy hcd hq0 hq1
              by_cases heq : xs.getD (k + J) default = xs.getD (k + t) default
              · have hkf := Lib.hid (show kp xs (k + J) = false by rw [hkk.out, heq]; simp)
                rw [hkf.out] at hsn
                simp only [Bool.false_eq_true, if_false, List.append_nil] at hsn
                rw [heq] at z0 z1
                clear hkk heq hkf
                generalize xs.getD (k + t) default = q at *
                obtain ⟨fr, tgt⟩ := q
                simp only at z0 z1 y0 y1
                have heb : eqB_ed fr fr tgt tgt = true := by rw [eqB_ed_iff]; simp
                have hqe := fun W => run_neq_ed fr fr tgt tgt W
                rw [heb] at hqe
                simp only [Bool.not_true] at hqe
                clear heb
                go_wp2_with fail
                go_quiet (fail)
                go_wp2_with fail
                replace hS := Lib.hid (hS.out.drewN nq)
                go_roundg (n - k - (J + 1))
                case measure => omega
                case rel => exact ⟨m, J + 1, cur, by omega, by omega, by omega, rfl, rfl, by go_num, hcl, Lib.hid (by rw [hct.out, ← Nat.add_assoc, hsn.out]), Lib.hid (by rw [← Nat.add_assoc, hsn.out]; exact hci.out), hcd', hS⟩
              · have hkt := Lib.hid (show kp xs (k + J) = true by rw [hkk.out]; simpa using heq)
                rw [hkt.out] at hsn
                simp only [if_true] at hsn
                clear hkk hkt
                generalize xs.getD (k + t) default = q at *
                generalize xs.getD (k + J) default = r at *
                have hput := Lib.hid (fun W (h : Sep W (vec 41 2 (.slice (some ⟨g, 0, none⟩) n c) n (cur.flatMap Ed.cells) :: rs)) => by
                  have h2 := Sep.vec_setN r.cells (m * 2) W _ h (by rw [ed_len, flat_len _ _ ed_len, hcl.out]; omega)
                  rw [flat_put ed_len cur m r (by rw [hcl.out]; omega)] at h2
                  exact h2)
                obtain ⟨fr, tgt⟩ := q
                obtain ⟨gr, so⟩ := r
                simp only at z0 z1 y0 y1
                simp only [Ed.cells, setW, Nat.add_assoc, Nat.reduceAdd] at hput
                obtain ⟨g', hg', hgl2, _, xx, hfz⟩ := hS.out.vec_at ed_len hcl.out (show m < n by omega)
                injection hg' with hg'
                injection hg' with hg'
                subst hg'
                have hcx : ∀ f, f < 2 → ∃ u, wr.cell? ⟨g, m * 2 + f, none⟩ = some u := fun f hf => by
                  obtain ⟨u, hu⟩ : ∃ u, (Ed.cells (cur.getD m default))[f]? = some u := ⟨_, List.getElem?_eq_getElem (by rw [ed_len]; exact hf)⟩
                  exact ⟨u, xx f u hu⟩
                obtain ⟨u0, x0⟩ := hcx 0 (by omega)
                have f0 := hfz (m * 2)
                obtain ⟨u1, x1⟩ := hcx 1 (by omega)
                have f1 := hfz (m * 2 + 1)
                rw [Nat.add_zero] at x0
                have heb : eqB_ed gr fr so tgt = false := by
                  rw [eqB_ed_iff, decide_eq_false_iff_not]
                  rintro ⟨rfl, rfl⟩
                  exact heq rfl
                have hqe := fun W => run_neq_ed gr fr so tgt W
                rw [heb] at hqe
                simp only [Bool.not_false] at hqe
                have i6 : (0 : Int) ≤ (m : Int) := by omega
                have i7 : (m : Int) < (n : Int) := by omega
                clear heb heq hcx hfz xx
                go_wp2_with fail
                go_quiet (fail)
                go_wp2_with fail
                replace hS := Lib.hid (hput.out _ (hS.out.drewN nq))
                clear hput x0 x1 f0 f1
                go_roundg (n - k - (J + 1))
                case measure => omega
                case rel => exact ⟨m + 1, J + 1, cur.set m ⟨gr, so⟩, by omega, by omega, by omega, rfl, by go_num, by go_num, Lib.hid (by rw [List.length_set]; exact hcl.out), Lib.hid (by rw [← Nat.add_assoc, hsn.out, ← hct.out]; exact take_set_snocL cur m _ (by rw [hcl.out]; omega)), Lib.hid (by rw [← Nat.add_assoc, hsn.out, List.length_append, ← hci.out]; rfl), Lib.hid (by rw [List.drop_set_of_lt (by omega)]; exact hcd'.out), hS⟩
            · have hJ' : k + J = n := by omega
              have hJ2 : J = n - k := by omega
              rw [hJ', hRe.out] at hct hci
              have hi3 : m < n := by omega
              obtain ⟨g', hg', _, hmc, _⟩ := hS.out.vec_at ed_len hcl.out hi3
              have j3 : (0 : Int) ≤ (m : Int) := by omega
              have j4 : (m : Int) < (n : Int) := by omega
              have j5 : (m : Int) ≤ (c : Int) := by omega
              clear hg' hJ'
              go_wp2_with (refine wpList_clear_sep hS.out (by kernel_rfl) (.tmp 56) 33 (by rfl) _ Try.underlying33 dzero_ed dsize_ed done_ed m hi3 (c - m) (by rfl) ?_)
              intro w3 ys hS3
              have hS4 := hS3.vec_shrink (k := m) (by omega)
              have hq : ((cur.flatMap Ed.cells).take (m * 2) ++ ys).take (m * 2) = R.flatMap Ed.cells := by
                rw [List.take_append_of_le_length (by rw [List.length_take, flat_len _ _ ed_len, hcl.out]; omega), List.take_take, Nat.min_self, flat_take _ _ ed_len _ _ (by rw [hcl.out]; omega), hct.out]
              rw [hq] at hS4
              replace hS4 := Lib.hid hS4
              clear hS3 hq hS
              go_wp2_with fail
              go_ret
              exact ⟨by rw [← hci.out]; rfl, by rw [← hci.out]; exact hS4.out⟩
        · have hkt := Lib.hid (show kp xs k = true by rw [hkk.out]; simpa using heq)
          have hok2 : Hid (∀ j, j < k + 1 → kp xs j = true) := Lib.hid (by
            intro j hj
            by_cases hjk : j = k
            · subst hjk; exact hkt.out
            · exact hok.out j (by omega))
          clear hkk hkt hok
          generalize xs.getD p default = q at *
          generalize xs.getD k default = r at *
          obtain ⟨fr, tgt⟩ := q
          obtain ⟨gr, so⟩ := r
          simp only at z0 z1 y0 y1
          have heb : eqB_ed gr fr so tgt = false := by
            rw [eqB_ed_iff, decide_eq_false_iff_not]
            rintro ⟨rfl, rfl⟩
            exact heq rfl
          have hqe := fun W => run_eql_ed gr fr so tgt W
          rw [heb] at hqe
          clear heb heq
          go_wp2_with fail
          go_quiet (fail)
          go_wp2_with fail
          go_roundw
          case rel => exact ⟨k + 1, by omega, by omega, by go_num, hok2, Lib.hid (hS.out.drewN _)⟩
          case measure => simp [intOf]; omega
      · have hkn : k = n := by omega
        have hRx : R = xs := hRa.out (fun j hj => hok.out j (by omega))
        subst hRx
        have hl2 := hl.out
        subst hkn
        go_wp2_with fail
        go_ret
        exact ⟨rfl, hS.out⟩
end Go.Proofs.Ytcnkmhfcgkbhbaa
namespace Go.Proofs.Ytcnkmhfcgkbhbaa
set_option linter.unusedSimpArgs false
set_option linter.unusedVariables false
set_option linter.unnecessarySimpa false
open Go.RowKit
def leEB (a b : Ed) : Bool := decide (a.from_ < b.from_ ∨ a.from_ = b.from_ ∧ a.tgt ≤ b.tgt)
theorem leEB_iff (a b : Ed) : leEB a b = true ↔ leE a b := by simp [leEB, leE]
theorem leE_anti (a b : Ed) (h1 : leE a b) (h2 : leE b a) : a = b := by
  obtain ⟨x, y⟩ := a
  obtain ⟨z, t⟩ := b
  simp only [leE] at h1 h2
  simp only [Ed.mk.injEq]
  omega
/-- In order. -/
def srtE (L : List Ed) : List Ed := L.mergeSort leEB
theorem srtE_perm (L : List Ed) : (srtE L).Perm L := List.mergeSort_perm L _
theorem srtE_pw (L : List Ed) : (srtE L).Pairwise leE := by
  have h := List.pairwise_mergeSort (le := leEB) (fun a b c h1 h2 => by
    rw [leEB_iff] at *
    unfold leE at *
    omega) (fun a b => by
    rw [Bool.or_eq_true, leEB_iff, leEB_iff]
    unfold leE
    omega) L
  exact h.imp fun h => (leEB_iff _ _).1 h
theorem srtE_uniq (L ys : List Ed) (hp : ys.Perm L) (hs : ys.Pairwise leE) : ys = srtE L :=
  List.Perm.eq_of_pairwise (le := leE) (fun a b _ _ h1 h2 => leE_anti a b h1 h2) hs (srtE_pw L) (hp.trans (srtE_perm L).symm)
theorem srtE_len (L : List Ed) : (srtE L).length = L.length := (srtE_perm L).length_eq
/-- What Sorted tells. -/
def sdE (L : List Ed) : List Ed := cpE (srtE L)
theorem sdE_len (L : List Ed) : (sdE L).length ≤ L.length := by
  have h := ck_len (srtE L) (srtE L).length
  rw [srtE_len] at h
  unfold sdE cpE
  rw [srtE_len]
  exact h
set_option maxHeartbeats 1000000 in
theorem sorted_any (v : Value) (L : List Ed) (w : World) (hv : RL w v 2 L.length (L.flatMap Ed.cells)) (hl : L.length ≤ 4000) :
    Calls Try.prog 24 #[v] w fun e w' => ∃ a c, e = .returned (.slice a (sdE L).length c) ∧ Sep w' [vec 41 2 (.slice a (sdE L).length c) (sdE L).length ((sdE L).flatMap Ed.cells), old w] := by
  have H := Lib.hid (clone_ed v L w hv hl)
  have hsl := srtE_len L
  clear hv
  go_enter Try.func24, Try.ntmps24
  go_wp2_with fail
  refine H.out.mono ?_
  rintro e w1 ⟨a, c, rfl, hS⟩
  clear H
  have H2 := Lib.hid (sortEdges_any a L.length c L w1 _ hS rfl (by omega))
  clear hS
  go_wp2_with fail
  refine H2.out.mono ?_
  rintro e w2 ⟨rfl, ys, hp, hs, hS⟩
  obtain rfl := srtE_uniq L ys hp hs
  clear H2 hp hs
  have H3 := Lib.hid (compactE_any a L.length c (srtE L) w2 _ hS hsl (by omega))
  clear hS
  go_wp2_with fail
  refine H3.out.mono ?_
  rintro e w3 ⟨rfl, hS⟩
  replace hS := Lib.hid hS
  clear H3
  go_wp2_with fail
  go_ret
  exact ⟨a, c, rfl, hS.out⟩
end Go.Proofs.Ytcnkmhfcgkbhbaa
namespace Go.Proofs.Ytcnkmhfcgkbhbaa
set_option linter.unusedSimpArgs false
set_option linter.unusedVariables false
set_option linter.unnecessarySimpa false
open Go.RowKit
theorem ck_props (l : List Ed) (hs : l.Pairwise leE) : ∀ m, m ≤ l.length → (∀ e, e ∈ ck l m ↔ e ∈ l.take m) ∧ (ck l m).Pairwise ltE
  | 0, _ => by simp [ck]
  | m + 1, hm => by
    obtain ⟨h1, h2⟩ := ck_props l hs m (by omega)
    have hg : l.getD m default = l[m] := by simp [List.getD, show m < l.length by omega]
    have htk : l.take (m + 1) = l.take m ++ [l[m]] := List.take_succ_eq_append_getElem (by omega)
    have hle : ∀ i, ∀ h : i < m, leE (l[i]'(by omega)) (l[m]'(by omega)) := fun i h => List.pairwise_iff_getElem.1 hs i m (by omega) (by omega) h
    rw [ck_succ, htk, hg]
    cases hk : kp l m with
    | false =>
      simp only [Bool.false_eq_true, if_false, List.append_nil]
      refine ⟨fun e => ?_, h2⟩
      rw [h1, List.mem_append, List.mem_singleton]
      refine ⟨.inl, fun h => h.elim id fun h => ?_⟩
      subst h
      cases m with
      | zero => simp [kp] at hk
      | succ p =>
        have hp : l.getD p default = l[p] := by simp [List.getD, show p < l.length by omega]
        have he : l[p + 1] = l[p] := by
          unfold kp at hk
          rw [Nat.add_sub_cancel, hg, hp] at hk
          simpa using hk
        rw [he]
        exact List.mem_take_iff_getElem.2 ⟨p, by omega, rfl⟩
    | true =>
      simp only [if_true]
      refine ⟨fun e => by rw [List.mem_append, List.mem_append, h1], ?_⟩
      rw [List.pairwise_append]
      refine ⟨h2, List.pairwise_singleton _ _, fun x hx y hy => ?_⟩
      rw [List.mem_singleton] at hy
      subst hy
      rw [h1] at hx
      obtain ⟨i, hi, rfl⟩ := List.mem_take_iff_getElem.1 hx
      have hi2 : i < m := by omega
      have hxm := hle i hi2
      have hne : l[i]'(by omega) ≠ l[m]'(by omega) := by
        intro heq
        cases m with
        | zero => omega
        | succ p =>
          have hp : l.getD p default = l[p] := by simp [List.getD, show p < l.length by omega]
          have hd : l[p + 1] ≠ l[p] := by
            unfold kp at hk
            rw [Nat.add_sub_cancel, hg, hp] at hk
            simpa using hk
          have h3 : leE (l[i]'(by omega)) (l[p]'(by omega)) := by
            by_cases hip : i = p
            · subst hip
              simp [leE]
            · exact List.pairwise_iff_getElem.1 hs i p (by omega) (by omega) (by omega)
          have h4 : leE (l[p]'(by omega)) (l[p + 1]'(by omega)) := hle p (by omega)
          rw [heq] at h3
          exact hd (leE_anti _ _ h3 h4)
      generalize l[i]'(by omega) = x at *
      generalize l[m]'(by omega) = y at *
      obtain ⟨a, b⟩ := x
      obtain ⟨c, d⟩ := y
      simp only [leE, ltE, ne_eq, Ed.mk.injEq] at *
      omega
theorem sdE_mem (L : List Ed) (e : Ed) : e ∈ sdE L ↔ e ∈ L := by
  unfold sdE cpE
  rw [(ck_props (srtE L) (srtE_pw L) _ (Nat.le_refl _)).1 e, List.take_length]
  exact (srtE_perm L).mem_iff
theorem sdE_pw (L : List Ed) : (sdE L).Pairwise ltE := (ck_props (srtE L) (srtE_pw L) _ (Nat.le_refl _)).2
/-- Strict order and members make a list. -/
theorem ltE_uniq : ∀ (l l' : List Ed), l.Pairwise ltE → l'.Pairwise ltE → (∀ e, e ∈ l ↔ e ∈ l') → l = l'
  | [], [], _, _, _ => rfl
  | [], y :: l', _, _, h => by simpa using (h y)
  | x :: l, [], _, _, h => by simpa using (h x)
  | x :: l, y :: l', h1, h2, h => by
    rw [List.pairwise_cons] at h1 h2
    have irr : ∀ e : Ed, ¬ ltE e e := fun e he => by simp [ltE] at he
    have hxy : x = y := by
      rcases List.mem_cons.1 ((h x).1 (List.mem_cons_self ..)) with h3 | h3
      · exact h3
      · rcases List.mem_cons.1 ((h y).2 (List.mem_cons_self ..)) with h4 | h4
        · exact h4.symm
        · have h5 := h2.1 x h3
          have h6 := h1.1 y h4
          simp only [ltE] at h5 h6
          omega
    subst hxy
    congr 1
    refine ltE_uniq l l' h1.2 h2.2 fun e => ⟨fun he => ?_, fun he => ?_⟩
    · rcases List.mem_cons.1 ((h e).1 (List.mem_cons_of_mem _ he)) with h3 | h3
      · subst h3; exact absurd (h1.1 _ he) (irr _)
      · exact h3
    · rcases List.mem_cons.1 ((h e).2 (List.mem_cons_of_mem _ he)) with h3 | h3
      · subst h3; exact absurd (h2.1 _ he) (irr _)
      · exact h3
end Go.Proofs.Ytcnkmhfcgkbhbaa
namespace Go.Proofs.Ytcnkmhfcgkbhbaa
set_option linter.unusedSimpArgs false
set_option linter.unusedVariables false
set_option linter.unnecessarySimpa false
open Go.RowKit
def tailRow (w : World) (e : TypeId) (v : Value) (n : Nat) (xs : List Value) : Prop :=
  xs.length = n ∧ ∃ g k c cur, v = .slice (some ⟨g, k, none⟩) n c ∧ w.heap[g]? = some (.cells cur e (0, 0)) ∧ n ≤ c ∧ c ≤ maxLen ∧ k + c ≤ cur.size ∧ (cur.toList.drop k).take n = xs
def tl (e : TypeId) (v : Value) (n : Nat) (xs : List Value) : Res where
  at_ A w := (∀ b, A b ↔ v.ownBlock = some b) ∧ tailRow w e v n xs
  lt h b hb := by
    obtain ⟨h1, _, g, k, c, cur, rfl, hg, _⟩ := h
    have := (h1 b).1 hb
    simp only [Value.ownBlock, Option.some.injEq] at this
    subst this
    exact (Array.getElem?_eq_some_iff.1 hg).1
  keep {A w w'} h k := by
    obtain ⟨h1, h2, g, kk, c, cur, rfl, hg, rest⟩ := h
    refine ⟨h1, h2, g, kk, c, cur, rfl, ?_, rest⟩
    rw [k.block g (Array.getElem?_eq_some_iff.1 hg).1 ((h1 g).2 rfl)]
    exact hg
section
variable {w w' : World} {e : TypeId} {n : Nat} {v : Value} {xs : List Value} {rs : List Res}
theorem Sep.tl_blk (h : Sep w (tl e v n xs :: rs)) : ∃ g k c cur, v = .slice (some ⟨g, k, none⟩) n c ∧ Sep w (blk g e cur :: rs) ∧ n ≤ c ∧ c ≤ maxLen ∧ k + c ≤ cur.size ∧ (cur.toList.drop k).take n = xs ∧ xs.length = n := by
  obtain ⟨A, ⟨h1, h0, g, k, c, cur, rfl, hg, a1, a2, a3, a4⟩, h2⟩ := h.open_
  exact ⟨g, k, c, cur, rfl, h2 w _ A ⟨fun b => by rw [h1]; simp [Value.ownBlock, eq_comm], hg⟩ (Keeps.refl _ _) (fun _ => .inl), a1, a2, a3, a4, h0⟩
theorem Sep.blk_tl {g k c : Nat} {cur : Array Value} (h : Sep w (blk g e cur :: rs)) (a1 : n ≤ c) (a2 : c ≤ maxLen) (a3 : k + c ≤ cur.size) (a4 : (cur.toList.drop k).take n = xs) :
    Sep w (tl e (.slice (some ⟨g, k, none⟩) n c) n xs :: rs) := by
  obtain ⟨A, h1, h2⟩ := h.open_
  exact h2 w _ A ⟨fun b => by rw [h1.1]; simp [Value.ownBlock, eq_comm], by rw [← a4]; simp; omega, g, k, c, cur, rfl, h1.2, a1, a2, a3, a4⟩ (Keeps.refl _ _) (fun _ => .inl)
/-- The first element, and what is behind it. -/
theorem Sep.tl_head {g k c : Nat} {x : Value} (h : Sep w (tl e (.slice (some ⟨g, k, none⟩) (n + 1) c) (n + 1) (x :: xs) :: rs)) :
    w.cell? ⟨g, k, none⟩ = some x ∧ n + 1 ≤ c ∧ Sep w (tl e (.slice (some ⟨g, k + 1, none⟩) n (c - 1)) n xs :: rs) := by
  obtain ⟨g', k', c', cur, hv, hS, a1, a2, a3, a4, a5⟩ := h.tl_blk
  injection hv with e1 e2 e3
  injection e1 with e1
  injection e1 with e1 e1'
  subst e1 e1' e3
  have hk : cur.toList.drop k = x :: (cur.toList.drop (k + 1)) := by
    have hlt : k < cur.toList.length := by rw [Array.length_toList]; omega
    rw [List.drop_eq_getElem_cons hlt] at a4 ⊢
    rw [List.take_succ_cons] at a4
    injection a4 with b1 b2
    rw [b1]
  refine ⟨?_, a1, hS.blk_tl (by omega) (by omega) (by omega) ?_⟩
  · rw [hS.gblk.cell]
    have := congrArg (fun l : List Value => l[0]?) hk
    simpa [List.getElem?_drop] using this
  · rw [hk, List.take_succ_cons] at a4
    injection a4
theorem run_append_tl {P : Program} (hS : Sep w (tl e v n xs :: rs)) (t ty : TypeId)
    (i : TypeInfo) (z : Value) (bytes : Nat) (ht : P.underlying t = some (.slice e)) (hi : P.info? e = some i) (hz : i.zero = some z)
    (hsize : i.size = 1) (hby : i.bytes = bytes) (hzs : z.cells.size = 1)
    (x u : Value) (hx : SrcA w 1 x 1 [u]) (h1 : u.oneCell' = true)
    (h63 : n + 1 ≤ maxLen) (hbytes : (n + 1) * bytes ≤ 140737488355328) :
    ∃ (a' : Addr) (c' : Nat) (w' : World), (Builtin.append_ #[t, t] ty #[v, x]).run P w = .ok (.slice (some a') (n + 1) c') w' ∧ Sep w' (tl e (.slice (some a') (n + 1) c') (n + 1) (xs ++ [u]) :: rs) := by
  rcases hx with ⟨_, h0, _⟩ | ⟨ad, cx, rfl, hl, hnews⟩
  · cases h0
  have hone : ∀ u' ∈ [u], u'.oneCell' = true := fun u' hu => by rw [List.mem_singleton] at hu; subst hu; exact h1
  have hsrc := Src.ofSlice (P := P) w ht ad 1 cx [u] (size := i.size) (by rw [hsize]; rfl) hnews hone
  obtain ⟨g, k, c, cur, rfl, hB, a1, a2, a3, a4, a5⟩ := hS.tl_blk
  by_cases hroom : n + 1 ≤ c
  · have hr := run_append_room_src (P := P) w t t ty e i ht hi g k n c _ 1 [u] hsrc hroom
      (fun j hj => by rw [hsize, hB.gblk.cell]; simp at hj; subst hj; rw [Array.getElem?_eq_getElem (by omega)]; rfl) (fun j hj => hB.gblk.frozen _)
    refine ⟨_, _, _, hr, ?_⟩
    rw [hsize, Nat.mul_one]
    have hB2 := hB.set (k + n) u
    refine Sep.blk_tl (cur := cur.setIfInBounds (k + n) u) hB2 hroom a2 (by simpa using a3) ?_
    rw [Array.toList_setIfInBounds, List.drop_set]
    rw [if_neg (by omega), show k + n - k = n by omega]
    rw [List.take_succ_eq_append_getElem (by simp; omega), List.take_set_of_le (by omega), a4]
    simp
  · have hold : ∀ j q, xs[j]? = some q → w.cell? ((⟨g, k, none⟩ : Addr).add j) = some q := by
      intro j q hj
      rw [Addr.add_lit, hB.gblk.cell]
      rw [← a4] at hj
      have hjn : j < n := by
        rcases Nat.lt_or_ge j n with h | h
        · exact h
        · rw [List.getElem?_eq_none (by simp; omega)] at hj; cases hj
      rw [List.getElem?_take_of_lt hjn, List.getElem?_drop] at hj
      simpa using hj
    have hn63 : n + 1 ≤ 9223372036854775807 := by simp only [maxLen] at h63; omega
    have hr := run_append_grow_src (P := P) w t t ty e i z ht hi hz (some ⟨g, k, none⟩) n c xs
      (run_firstCells_some w.drew i.size n _ n c xs (by rw [hsize, a5, Nat.mul_one]) (by simpa using hold)) _ 1 [u] hsrc (by omega) (by omega) (growslice_fits (by omega) (by rw [hby]; exact hbytes))
    refine ⟨_, _, _, hr, ?_⟩
    have hge := grownCap_ge w (n + 1) c e
    have hcm : grownCap w (n + 1) c e ≤ maxLen := grownCap_le_maxLen w (n + 1) c e h63
    refine Sep.blk_tl (hS.tail.drew.alloc _ e) hge hcm ?_ ?_
    · simp [size_zeroCells, hzs, a5]
      omega
    · simp only [List.drop_zero, Array.toList_append]
      exact List.take_left' (by simp [a5])
theorem wpList_append_tl {P : Program} {ops : Array Oper} {rest : List Oper} {o : Oper} {a : Act} {Q : Exit → Act → World → Prop} (hS : Sep w (tl e v n xs :: rs)) (hg : o.guard = none) (s x : Operand) (t : TypeId)
    (ho : o.op = .call { callee := .builtin .append, args := #[s, x], argTypes := #[t, t] })
    (i : TypeInfo) (z : Value) (bytes : Nat) (ht : P.underlying t = some (.slice e)) (hi : P.info? e = some i) (hz : i.zero = some z)
    (hsize : i.size = 1) (hby : i.bytes = bytes) (hzs : z.cells.size = 1)
    (hs : a.eval s = v) (u : Value) (hx : SrcA w 1 (a.eval x) 1 [u]) (h1 : u.oneCell' = true)
    (h63 : n + 1 ≤ maxLen) (hbytes : (n + 1) * bytes ≤ 140737488355328)
    (h : ∀ (a' : Addr) (c' : Nat) w', Sep w' (tl e (.slice (some a') (n + 1) c') (n + 1) (xs ++ [u]) :: rs) → wpList P ops Q rest (a.put o.dst (.slice (some a') (n + 1) c')) w') :
    wpList P ops Q (o :: rest) a w := by
  refine wpList_plain hg fun K hK => ?_
  obtain ⟨a', c', w', hr, hS'⟩ := run_append_tl (P := P) hS t o.type i z bytes ht hi hz hsize hby hzs _ u hx h1 h63 hbytes
  unfold Oper.wp execOp
  simp only [ho, resolve, invoke, builtin, Sem.run_bind, Sem.run_pure, Result.andThen_ok, List.map_toArray, List.map_cons, List.map_nil, hs, hr]
  exact hK _ _ (h a' c' w' hS')
end
end Go.Proofs.Ytcnkmhfcgkbhbaa
namespace Go.Proofs.Ytcnkmhfcgkbhbaa
set_option linter.unusedSimpArgs false
set_option linter.unusedVariables false
set_option linter.unnecessarySimpa false
open Go.RowKit
def addE (R : List (Int × List Int)) (e : Ed) : List (Int × List Int) :=
  match R with
  | [] => [(e.from_, [e.tgt])]
  | (k, xs) :: r => if k = e.from_ then (k, xs ++ [e.tgt]) :: r else (e.from_, [e.tgt]) :: (k, xs) :: r
def nxL (L : List Ed) : List (Int × List Int) := (sdE L).foldl addE []
theorem addE_keys (R : List (Int × List Int)) (e : Ed) : ∀ p ∈ addE R e, p.1 = e.from_ ∨ p ∈ R := by
  intro p hp
  unfold addE at hp
  split at hp
  · simp at hp; exact .inl (by rw [hp])
  · split at hp
    · rename_i h
      rcases List.mem_cons.1 hp with rfl | hp
      · exact .inl h
      · exact .inr (List.mem_cons_of_mem _ hp)
    · rcases List.mem_cons.1 hp with rfl | hp
      · exact .inl rfl
      · exact .inr hp
/-- What has been gone through has no larger keys, and each key once. -/
theorem nx_inv (S : List Ed) (hs : S.Pairwise ltE) : ∀ k (hk : k < S.length), ∀ p ∈ (S.take k).foldl addE [], p.1 ≤ S[k].from_
  | 0, _ => by simp
  | k + 1, hk => by
    intro p hp
    rw [List.take_succ_eq_append_getElem (by omega), List.foldl_append] at hp
    have h1 := List.pairwise_iff_getElem.1 hs k (k + 1) (by omega) hk (by omega)
    have h2 : S[k].from_ ≤ S[k + 1].from_ := by simp only [ltE] at h1; omega
    rcases addE_keys _ _ p hp with h | h
    · rw [h]; exact h2
    · exact Int.le_trans (nx_inv S hs k (by omega) p h) h2
theorem addE_pw {R : List (Int × List Int)} {e : Ed} (h : R.Pairwise (fun p q => q.1 < p.1)) (hle : ∀ p ∈ R, p.1 ≤ e.from_) : (addE R e).Pairwise (fun p q => q.1 < p.1) := by
  unfold addE
  split
  · simp
  · split
    · rw [List.pairwise_cons] at h ⊢
      exact h
    · rename_i k xs r hne
      rw [List.pairwise_cons]
      refine ⟨fun q hq => ?_, h⟩
      rcases List.mem_cons.1 hq with rfl | hq
      · have := hle _ (List.mem_cons_self ..)
        simp only at this ⊢
        omega
      · have h1 := (List.pairwise_cons.1 h).1 q hq
        have := hle _ (List.mem_cons_self ..)
        simp only at this h1 ⊢
        omega
theorem nx_pw (S : List Ed) (hs : S.Pairwise ltE) : ∀ k, k ≤ S.length → ((S.take k).foldl addE []).Pairwise (fun p q => q.1 < p.1)
  | 0, _ => by simp
  | k + 1, hk => by
    rw [List.take_succ_eq_append_getElem (by omega), List.foldl_append]
    exact addE_pw (nx_pw S hs k (by omega)) (nx_inv S hs k (by omega))
abbrev Row := Int × Value × List Int
def rowsR : List Row → Res
  | [] => prop True
  | r :: rs => star (vec 3 1 r.2.1 r.2.2.length (r.2.2.map (Value.int .i64))) (rowsR rs)
def rowsP (R : List Row) : List (Int × List Int) := R.map fun r => (r.1, r.2.2)
def rowOf (R : List Row) (a : Int) : Option Row := R.find? fun r => decide (r.1 = a)
def NX (es : List (Int × Value)) (R : List Row) : Prop := ∀ a, getL es a = (rowOf R a).map (·.2.1)
theorem addE_len {R : List (Int × List Int)} {e : Ed} {k : Nat} (h : ∀ p ∈ R, p.2.length ≤ k) : ∀ p ∈ addE R e, p.2.length ≤ k + 1 := by
  intro p hp
  unfold addE at hp
  split at hp
  · simp at hp; subst hp; simp
  · split at hp
    · rcases List.mem_cons.1 hp with rfl | hp
      · have := h _ (List.mem_cons_self ..)
        simp only [List.length_append, List.length_cons, List.length_nil] at this ⊢
        omega
      · have := h p (List.mem_cons_of_mem _ hp)
        omega
    · rcases List.mem_cons.1 hp with rfl | hp
      · simp
      · have := h p hp
        omega
theorem nx_len (S : List Ed) : ∀ k, k ≤ S.length → ∀ p ∈ (S.take k).foldl addE [], p.2.length ≤ k
  | 0, _ => by simp
  | k + 1, hk => by
    rw [List.take_succ_eq_append_getElem (by omega), List.foldl_append]
    exact addE_len (nx_len S k (by omega))
theorem rowOf_none {R : List Row} {a : Int} (h : ∀ p ∈ rowsP R, p.1 ≠ a) : rowOf R a = none := by
  unfold rowOf
  rw [List.find?_eq_none]
  intro r hr
  have := h (r.1, r.2.2) (List.mem_map.2 ⟨r, hr, rfl⟩)
  simpa using this
theorem rowOf_cons (k : Int) (v : Value) (xs : List Int) (R : List Row) (a : Int) : rowOf ((k, v, xs) :: R) a = if a = k then some (k, v, xs) else rowOf R a := by
  unfold rowOf
  rw [List.find?_cons]
  by_cases h : a = k
  · subst h; simp
  · simp [h, Ne.symm h]
/-- The row that is written next, brought to the front. -/
theorem nx_open {W : World} {es : List (Int × Value)} {R : List Row} {fr tgt : Int} {rs : List Res} (hS : Sep W (rowsR R :: rs)) (hN : NX es R) (hle : ∀ p ∈ rowsP R, p.1 ≤ fr) (hpw : (rowsP R).Pairwise (fun p q => q.1 < p.1)) :
    ∃ cv xs rest, Sep W (vec 3 1 cv xs.length (xs.map (Value.int .i64)) :: rowsR rest :: rs) ∧ ((getL es fr).map (id : Value → Value)).getD (.slice none 0 0) = cv ∧ (fr, xs ++ [tgt]) :: rowsP rest = addE (rowsP R) ⟨fr, tgt⟩ ∧
      ∀ cv', NX (putL es fr cv') ((fr, cv', xs ++ [tgt]) :: rest) := by
  have new : (∀ p ∈ rowsP R, p.1 ≠ fr) → ∃ cv xs rest, Sep W (vec 3 1 cv xs.length (xs.map (Value.int .i64)) :: rowsR rest :: rs) ∧ ((getL es fr).map (id : Value → Value)).getD (.slice none 0 0) = cv ∧ (fr, xs ++ [tgt]) :: rowsP rest = addE (rowsP R) ⟨fr, tgt⟩ ∧
      ∀ cv', NX (putL es fr cv') ((fr, cv', xs ++ [tgt]) :: rest) := by
    intro hne
    refine ⟨.slice none 0 0, [], R, hS.vec_nil _ _, by rw [hN, rowOf_none hne]; rfl, ?_, ?_⟩
    · cases R with
      | nil => rfl
      | cons r R =>
        have := hne (r.1, r.2.2) (by simp [rowsP])
        simp only at this
        simp [rowsP, addE, this]
    · intro cv' a
      rw [getL_putL, rowOf_cons]
      by_cases h : a = fr
      · simp [h]
      · rw [if_neg h, if_neg h]; exact hN a
  cases R with
  | nil => exact new (by simp [rowsP])
  | cons r R =>
    obtain ⟨k, v, xs⟩ := r
    by_cases hk : k = fr
    · subst hk
      have h2 := Sep.gstar.1 hS
      refine ⟨v, xs, R, h2, ?_, by simp [rowsP, addE], ?_⟩
      · rw [hN, rowOf_cons, if_pos rfl]; rfl
      · intro cv' a
        rw [getL_putL, rowOf_cons]
        by_cases h : a = k
        · simp [h]
        · rw [if_neg h, if_neg h, hN a, rowOf_cons, if_neg h]
    · refine new fun p hp => ?_
      have h1 := hle (k, xs) (by simp [rowsP])
      have h2 : (rowsP ((k, v, xs) :: R)) = (k, xs) :: rowsP R := rfl
      rw [h2] at hp hpw
      rcases List.mem_cons.1 hp with rfl | hp
      · exact hk
      · have h3 := (List.pairwise_cons.1 hpw).1 p hp
        simp only at h1 h3
        omega
theorem rows_cons {W : World} {k : Int} {v : Value} {n : Nat} {xs : List Int} {R : List Row} {rs : List Res} (hn : n = xs.length) (h : Sep W (vec 3 1 v n (xs.map (Value.int .i64)) :: rowsR R :: rs)) : Sep W (rowsR ((k, v, xs) :: R) :: rs) := by
  subst hn
  exact Sep.gstar.2 h
theorem lawI : KeyEnc Try.prog 3 ekI := keyEnc_int Try.underlying3
theorem srcA_cells (w : World) (cs : Array Value) (t : TypeId) (c sz : Nat) (hz : cs.size = sz) : SrcA (w.alloc (.cells cs t)) sz (.slice (some ⟨w.heap.size, 0, none⟩) 1 c) 1 cs.toList := by
  refine .inr ⟨_, _, rfl, by simpa using hz, fun j u hu => ?_⟩
  rw [Addr.add_lit, (Blk.new w t cs).cell]
  simpa using hu
theorem zero_ints (w : World) : (zeroValue 30).run Try.prog w = .ok (.slice none 0 0) w := by kernel_rfl
theorem und_nx : Try.prog.underlying 62 = some (.map 3 30) := by kernel_rfl
set_option maxHeartbeats 4000000 in
set_option maxRecDepth 100000 in
theorem nexts_any (v : Value) (L : List Ed) (w : World) (hv : RL w v 2 L.length (L.flatMap Ed.cells)) (hl : L.length ≤ 1000) :
    Calls Try.prog 32 #[v] w fun e w' => ∃ b es R, e = .returned (.map (some b)) ∧ rowsP R = nxL L ∧ NX es R ∧ Sep w' [mapr ekI id b es, rowsR R, old w] := by
  have HS := Lib.hid (fun W (h : RL W v 2 L.length (L.flatMap Ed.cells)) => sorted_any v L W h (by omega))
  have hsl := sdE_len L
  have hinv := Lib.hid (fun k hk => nx_inv (sdE L) (sdE_pw L) k hk)
  have hpw := Lib.hid (fun k hk => nx_pw (sdE L) (sdE_pw L) k hk)
  unfold nxL
  generalize sdE L = S at *
  replace HS := HS.out
  obtain ⟨n, hn⟩ : ∃ n, Hid (S.length = n) := ⟨_, rfl⟩
  rw [hn.out] at hsl
  simp only [hn.out] at HS
  replace HS := Lib.hid HS
  have hmm := @run_makeMap Try.prog
  have hM := Lib.hid ((Sep.start w).map_new ekI (id : Value → Value))
  replace hv := Lib.hid hv
  go_enter Try.func32, Try.ntmps32
  go_wp2_with fail
  clear hmm
  refine (HS.out _ (hv.out.below hM.out.tail.gold)).mono ?_
  rintro e w1 ⟨a, c, rfl, q⟩
  have hV := Lib.hid (q.graft hM.out)
  clear q HS hM hv
  generalize w.heap.size = m at *
  go_wp2_with fail
  go_loopw [10] (fun x wr => ∃ (k : Nat) (R : List Row) (es : List (Int × Value)), k ≤ n ∧ x = .int .i64 k ∧ Hid (rowsP R = (S.take k).foldl addE []) ∧ Hid (NX es R) ∧ Hid (Sep wr [rowsR R, mapr ekI (id : Value → Value) m es, vec 41 2 (.slice a n c) n (S.flatMap Ed.cells), old w])) (fun x _ => n - (intOf x).toNat)
  case atStart => exact ⟨0, [], [], Nat.zero_le _, rfl, Lib.hid rfl, Lib.hid (fun _ => rfl), Lib.hid ((Sep.gprop (p := True)).2 ⟨trivial, hV.out.to1⟩)⟩
  case round =>
    clear hV
    obtain ⟨k, R, es, hk, rfl, hR, hN, hV⟩ := hrel
    by_cases hlt : k < n
    · obtain ⟨g, rfl, _, _, zz, _⟩ := hV.out.to2.vec_at ed_len hn.out hlt
      have hg : S.getD k default = S[k]'(by rw [hn.out]; exact hlt) := by simp [List.getD, show k < S.length by rw [hn.out]; exact hlt]
      have hle := hinv.out k (by rw [hn.out]; exact hlt)
      have hpk := hpw.out k (by rw [hn.out]; exact hk)
      have hR2 := Lib.hid (show (S.take (k + 1)).foldl addE [] = addE ((S.take k).foldl addE []) (S.getD k default) by rw [hg, List.take_succ_eq_append_getElem (by rw [hn.out]; exact hlt), List.foldl_append]; rfl)
      have hln := Lib.hid (nx_len S (k + 1) (by rw [hn.out]; exact hlt))
      rw [hR2.out] at hln
      rw [← hg] at hle
      rw [← hR.out] at hle hpk hR2 hln
      generalize S.getD k default = ed at *
      obtain ⟨fr, tgt⟩ := ed
      have z0 := zz 0 _ rfl
      have z1 := zz 1 _ rfl
      rw [Nat.add_zero] at z0
      obtain ⟨cv, xs, rest, hV2, hlk, had, hnx⟩ := nx_open (tgt := tgt) hV.out hN.out hle hpk
      rw [← had] at hR2 hln
      have hxl : Hid (xs.length ≤ k) := Lib.hid (by have := hln.out _ (List.mem_cons_self ..); simp only [List.length_append, List.length_cons, List.length_nil] at this; omega)
      replace hV := Lib.hid hV2
      replace hnx := Lib.hid hnx
      replace hlk := Lib.hid hlk
      have i1 : (0 : Int) ≤ (k : Int) := by omega
      have i2 : (k : Int) < (n : Int) := by omega
      clear zz hg hle hpk had hln hV2 hN hR
      obtain ⟨xn, hxn⟩ : ∃ xn, Hid (xs.length = xn) := ⟨_, rfl⟩
      rw [hxn.out] at hV hxl
      have hB := Lib.hid (hV.out.alloc #[.int .i64 fr, .int .i64 tgt] 41)
      clear hV
      obtain ⟨i0, hi0, hz0, hz1, hz2⟩ := info_parts info_int
      have h1c : Hid (∀ u ∈ ([.int .i64 tgt] : List Value), u.oneCell' = true) := Lib.hid (by simp [Value.oneCell'])
      go_wp2_with fail
      replace hB := Lib.hid hB.out.to3.to1.drew
      generalize wr.heap.size = EB at *
      have hS := Lib.hid (show (fun W : World => ∃ u q cs, Sep W [blk EB 41 #[.int .i64 fr, .int .i64 tgt], mapr ekI (id : Value → Value) m es, vec 3 1 u q cs, rowsR rest, vec 41 2 (.slice (some ⟨g, 0, none⟩) n c) n (S.flatMap Ed.cells), old w]) _ from ⟨_, _, _, hB.out⟩)
      refine hx_begin (fun W : World => ∃ u q cs, Sep W [blk EB 41 #[.int .i64 fr, .int .i64 tgt], mapr ekI (id : Value → Value) m es, vec 3 1 u q cs, rowsR rest, vec 41 2 (.slice (some ⟨g, 0, none⟩) n c) n (S.flatMap Ed.cells), old w]) 11 [(0, true), (1, true), (2, true), (3, true), (4, true), (5, true), (6, true), (7, true), (8, true), (9, false), (10, false), (11, false)] [(10, 11), (0, 11), (1, 11), (2, 11), (3, 11), (4, 11), (5, 11), (6, 11), (7, 11), (8, 11), (9, 11)] (by kernel_rfl) (by kernel_rfl) (by kernel_rfl) (by kernel_rfl) rfl (by kernel_rfl) (by kernel_rfl) (fun _ _ _ _ _ h => h) hS.out ?_
      change HX _ _ _ _ _ _ _ (World.drew _)
      generalize World.drew _ = wd at *
      refine hx_take ?v0 rfl (by kernel_rfl) ?y0 ?z0
      case y0 => intro W hW; skip; replace hW := Lib.hid hW; go_simp; try rfl
      case z0 =>
      simp only [Act.put, List.setIfInBounds_toArray, List.set_cons_succ, List.set_cons_zero, List.getElem_toArray, List.getElem_cons_zero, List.getElem_cons_succ]
      refine hx_take ?v1 rfl (by kernel_rfl) ?y1 ?z1
      case y1 => intro W hW; skip; replace hW := Lib.hid hW; go_simp; try rfl
      case z1 =>
      simp only [Act.put, List.setIfInBounds_toArray, List.set_cons_succ, List.set_cons_zero, List.getElem_toArray, List.getElem_cons_zero, List.getElem_cons_succ]
      refine hx_take ?v2 rfl (by kernel_rfl) ?y2 ?z2
      case y2 => intro W hW; obtain ⟨_, _, _, hW⟩ := hW; obtain ⟨_, c0, c1, _⟩ := hW.b2; replace hW := Lib.hid hW; go_simp; try rfl
      case z2 =>
      simp only [Act.put, List.setIfInBounds_toArray, List.set_cons_succ, List.set_cons_zero, List.getElem_toArray, List.getElem_cons_zero, List.getElem_cons_succ]
      refine hx_take ?v3 rfl (by kernel_rfl) ?y3 ?z3
      case y3 => intro W hW; skip; replace hW := Lib.hid hW; go_simp; try rfl
      case z3 =>
      simp only [Act.put, List.setIfInBounds_toArray, List.set_cons_succ, List.set_cons_zero, List.getElem_toArray, List.getElem_cons_zero, List.getElem_cons_succ]
      refine hx_take ?v4 rfl (by kernel_rfl) ?y4 ?z4
      case y4 => intro W hW; skip; replace hW := Lib.hid hW; go_simp; try rfl
      case z4 =>
      simp only [Act.put, List.setIfInBounds_toArray, List.set_cons_succ, List.set_cons_zero, List.getElem_toArray, List.getElem_cons_zero, List.getElem_cons_succ]
      refine hx_take ?v5 rfl (by kernel_rfl) ?y5 ?z5
      case y5 => intro W hW; obtain ⟨_, _, _, hW⟩ := hW; obtain ⟨_, c0, c1, _⟩ := hW.b2; replace hW := Lib.hid hW; go_simp; try rfl
      case z5 =>
      simp only [Act.put, List.setIfInBounds_toArray, List.set_cons_succ, List.set_cons_zero, List.getElem_toArray, List.getElem_cons_zero, List.getElem_cons_succ]
      refine hx_take ?v6 rfl (by kernel_rfl) ?y6 ?z6
      case y6 => intro W hW; obtain ⟨_, _, _, hW⟩ := hW; have hk := run_lookup_map lawI und_nx hW.to1 (zero_ints W) fr false; rw [if_neg (by simp), hlk.out] at hk; unfold ekI at hk; replace hW := Lib.hid hW; go_simp; try rfl
      case z6 =>
      simp only [Act.put, List.setIfInBounds_toArray, List.set_cons_succ, List.set_cons_zero, List.getElem_toArray, List.getElem_cons_zero, List.getElem_cons_succ]
      refine hx_take ?v7 rfl (by kernel_rfl) ?y7 ?z7
      case y7 => intro W hW; skip; replace hW := Lib.hid hW; go_simp; try rfl
      case z7 =>
      simp only [Act.put, List.setIfInBounds_toArray, List.set_cons_succ, List.set_cons_zero, List.getElem_toArray, List.getElem_cons_zero, List.getElem_cons_succ]
      refine hx_take ?v8 rfl (by kernel_rfl) ?y8 ?z8
      case y8 => intro W hW; obtain ⟨_, _, _, hW⟩ := hW; obtain ⟨_, c0, c1, _⟩ := hW.b2; replace hW := Lib.hid hW; go_simp; try rfl
      case z8 =>
      simp only [Act.put, List.setIfInBounds_toArray, List.set_cons_succ, List.set_cons_zero, List.getElem_toArray, List.getElem_cons_zero, List.getElem_cons_succ]
      refine hx_one (by decide) rfl (by kernel_rfl) (fun K hK => ?_)
      go_simp
      replace hB := Lib.hid (hB.out.allocG (.cells #[.int .i64 tgt] 3))
      have hsrc := Lib.hid (srcA_cells wd #[.int .i64 tgt] 3 1 1 rfl)
      refine hK.out _ _ ⟨_, _, _, hB.out⟩ ?_
      clear hK K
      try simp only [Act.put, List.setIfInBounds_toArray, List.set_cons_succ, List.set_cons_zero, List.getElem_toArray, List.getElem_cons_zero, List.getElem_cons_succ]
      refine hx_one (by decide) rfl (by kernel_rfl) (fun K hK => ?_)
      refine wp_append_sep hB.out.to2 (.tmp 20) (.tmp 23) 30 (by rfl) i0 _ 8 Try.underlying30 hi0 hz0 hz1 hz2 rfl (by decide) (by rfl) 1 [.int .i64 tgt] (by exact hsrc.out) h1c.out ?c901 ?d901 ?_
      case c901 => have := hxl.out; simp only [maxLen]; omega
      case d901 => have := hxl.out; omega
      intro na nc w2 q
      replace hB := Lib.hid (show Sep _ _ from q.to2.to2)
      clear q hsrc
      refine hK.out _ _ ⟨_, _, _, hB.out⟩ ?_
      clear hK K
      try simp only [Act.put, List.setIfInBounds_toArray, List.set_cons_succ, List.set_cons_zero, List.getElem_toArray, List.getElem_cons_zero, List.getElem_cons_succ]
      refine hx_last rfl (by kernel_rfl) (fun K hK => ?_)
      refine wp_mapUpdate_map hB.out.to1 lawI und_nx (.tmp 14) (.tmp 16) (.tmp 24) (by rfl) (by rfl) fr (.slice na (xn + 1) nc) (by rfl) (by rfl) ?_
      intro w3 q
      replace hB := Lib.hid q
      clear q
      refine hK.out _ _ ?_
      clear hK K
      try simp only [Act.put, List.setIfInBounds_toArray, List.set_cons_succ, List.set_cons_zero, List.getElem_toArray, List.getElem_cons_zero, List.getElem_cons_succ]
      refine hx_done ?_
      clear hS
      go_wp2_with fail
      go_roundw
      case rel =>
        refine ⟨k + 1, (fr, .slice na (xn + 1) nc, xs ++ [tgt]) :: rest, putL es fr (.slice na (xn + 1) nc), by omega, by go_num, Lib.hid (by rw [hR2.out] <;> rfl), Lib.hid (hnx.out _), Lib.hid (rows_cons (by rw [List.length_append, hxn.out] <;> rfl) ?_)⟩
        have h := hB.out.drop1.to2.to2
        rw [List.map_append]
        exact h
      case measure => simp [intOf]; omega
    · have hkn : k = n := by omega
      subst hkn
      go_wp2_with fail
      go_ret
      exact ⟨m, es, R, rfl, by rw [hR.out, ← hn.out, List.take_length], hN.out, hV.out.to1.drop2⟩
end Go.Proofs.Ytcnkmhfcgkbhbaa
