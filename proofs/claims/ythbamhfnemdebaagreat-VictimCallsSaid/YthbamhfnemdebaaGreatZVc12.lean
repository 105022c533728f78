/-
  Contracts and plain laws that the walk leans on, part 12. No condition.
-/
import Derived.Test.YthbamhfnemdebaaGreatZVc11
import Derived.ProofKit
import Derived.OpenShut
import Derived.ShutString
import Derived.ChangeOld
import Derived.ChangeSame
import Derived.Deep.Slices
import Derived.Deep.Fields
namespace Go.Proofs.YthbamhfnemdebaaGreat
open Go.RowKit
theorem ageL_at (A : List Ag) (t : Int) (k : Nat) (hk : k < A.length) (h1 : ∀ j, j < k → (A.getD j default).txn ≠ t) (h2 : (A.getD k default).txn = t) : ageL A t = (A.getD k default).age := by
  unfold ageL
  have e : A.find? (fun a => a.txn == t) = some (A.getD k default) := by
    rw [List.find?_eq_some_iff_getElem]
    have hg : A.getD k default = A[k] := by simp [List.getD, hk]
    refine ⟨by simpa using h2, k, hk, hg.symm, fun j hj => ?_⟩
    have := h1 j hj
    rw [show A.getD j default = A[j] by simp [List.getD, show j < A.length by omega]] at this
    simpa using this
  rw [e]
  rfl
theorem ageL_no (A : List Ag) (t : Int) (h1 : ∀ j, j < A.length → (A.getD j default).txn ≠ t) : ageL A t = 0 := by
  unfold ageL
  have e : A.find? (fun a => a.txn == t) = none := by
    rw [List.find?_eq_none]
    intro x hx
    obtain ⟨j, hj, rfl⟩ := List.getElem_of_mem hx
    have := h1 j hj
    rw [show A.getD j default = A[j] by simp [List.getD, hj]] at this
    simpa using this
  rw [e]
  rfl
set_option maxHeartbeats 2000000 in
theorem ageR_any (v : Value) (A : List Ag) (t : Int) (w : World) (hv : RL w v 2 A.length (A.flatMap Ag.cells)) (hl : A.length ≤ 1000) :
    Calls Tryz.prog 10 #[v, .int .i64 t] w fun e w' => e = .returned (.int .i64 (ageL A t)) ∧ w' = w := by
  have hv2 := Lib.hid hv
  obtain ⟨_, a, c, rfl, _⟩ := hv
  obtain ⟨n, hn⟩ : ∃ n, A.length = n := ⟨_, rfl⟩
  have hat := Lib.hid (ageL_at A t)
  have hno := Lib.hid (ageL_no A t)
  rw [hn] at hv2 hl hat hno ⊢
  replace hn := Lib.hid hn
  obtain ⟨R, hR⟩ : ∃ R, ageL A t = R := ⟨_, rfl⟩
  rw [hR] at hat hno ⊢
  clear hR
  go_enter Tryz.func10, Tryz.ntmps10
  go_wp2_with fail
  go_loopg [5] n (fun gm s5 W => ∃ k : Nat, k ≤ n ∧ gm = n - k ∧ s5 = .int .i64 k ∧ Hid (∀ j, j < k → (A.getD j default).txn ≠ t) ∧ W = w)
  case atStart => exact ⟨0, Nat.zero_le _, rfl, rfl, Lib.hid (fun j h => absurd h (by omega)), rfl⟩
  case round =>
    obtain ⟨k, hk, hgm, rfl, hlow, rfl⟩ := hrel
    by_cases hlt : k < n
    · obtain ⟨b, off, rfl, _, zz⟩ := cells_ag hv2.out hn.out (by omega)
      have hkl : k < A.length := by rw [hn.out]; exact hlt
      have hg : A[k]? = some (A.getD k default) := by rw [List.getElem?_eq_getElem hkl]; simp [List.getD, hkl]
      have z0 := zz k _ hg 0 _ rfl
      have z1 := zz k _ hg 1 _ rfl
      rw [Nat.add_zero] at z0
      rw [← Nat.add_assoc] at z1
      have ha := Lib.hid (hat.out k hlt hlow.out)
      have hlow2 := Lib.hid (fun (h : (A.getD k default).txn ≠ t) j (hj : j < k + 1) => show (A.getD j default).txn ≠ t from by
        rcases Nat.lt_or_ge j k with h1 | h1
        · exact hlow.out j h1
        · obtain rfl : j = k := by omega
          exact h)
      clear zz hg hkl
      generalize A.getD k default = x at *
      obtain ⟨tx, ag⟩ := x
      simp only at z0 z1 ha hlow2
      have i1 : (0 : Int) ≤ (k : Int) := by omega
      have i2 : (k : Int) < (n : Int) := by omega
      by_cases he : tx = t
      · have ha2 := ha.out he
        subst ha2
        have e1 : (tx == t) = true := by simpa using he
        replace he := Lib.hid he
        clear hlow2
        go_wp2_with fail
        go_ret
        exact ⟨rfl, rfl⟩
      · have e1 : (tx == t) = false := by simpa using he
        have hlow3 := Lib.hid (hlow2.out he)
        have hms := Lib.hid (show n - (k + 1) < n - k from Nat.sub_lt_sub_left hlt (Nat.lt_succ_self k))
        go_wp2_with fail
        go_roundg (n - (k + 1))
        case measure => first | exact hms.out | (rw [hgm]; exact hms.out)
        case rel => exact ⟨k + 1, by omega, rfl, by go_num, hlow3, rfl⟩
    · obtain rfl : k = n := by omega
      have hz := hno.out hlow.out
      subst hz
      go_wp2_with fail
      go_ret
      exact ⟨rfl, rfl⟩
theorem maxL_snoc (c : Int → Int → Int) (xs : List Int) (m x : Int) : maxL c (xs ++ [x]) m = if c x (maxL c xs m) > 0 then x else maxL c xs m := by
  unfold maxL
  rw [List.foldl_append]
  rfl
set_option maxHeartbeats 4000000 in
theorem chooseR_any (u v : Value) (xs : List Int) (A : List Ag) (w : World) (hu : RI w u xs) (hl : xs.length ≤ 1000) (hv : RL w v 2 A.length (A.flatMap Ag.cells)) (hA : A.length ≤ 1000) :
    Calls Tryz.prog 8 #[u, v] w fun e w' => e = .returned (.tuple #[.int .i64 (chL A xs), .bool (decide (0 < xs.length))]) ∧ w' = w := by
  have HA := Lib.hid (fun t => ageR_any v A t w hv hA)
  obtain ⟨_, va, vc, rfl, _⟩ := hv
  obtain ⟨a, c, rfl, hr⟩ := hu
  cases xs with
  | nil =>
    clear hr HA
    have hz : chL A [] = 0 := rfl
    rw [hz]
    go_enter Tryz.func8, Tryz.ntmps8
    go_wp2_with fail
    refine bodyPost_ret (v := .tuple #[.int .i64 0, .bool false]) (by simp [results, Tryz.results8, go_sem, *]) rfl ⟨rfl, rfl⟩
  | cons x0 xs =>
    obtain ⟨b, off, rfl, _, hz⟩ := hr (by simp)
    have hch : chL A (x0 :: xs) = maxL (cmpY A) xs x0 := rfl
    rw [hch]
    obtain ⟨n, hn⟩ : ∃ n, xs.length = n := ⟨_, rfl⟩
    have hcell := Lib.hid (fun k (hk : k < n) => show w.cell? ⟨b, off + (k + 1), none⟩ = some (.int .i64 (xs.getD k 0)) from hz (k + 1) (by simp; omega))
    have z0 : w.cell? ⟨b, off, none⟩ = some (.int .i64 x0) := hz 0 (by simp)
    have hsn := Lib.hid (fun k (hk : k < n) => show maxL (cmpY A) (xs.take (k + 1)) x0 = if cmpY A (xs.getD k 0) (maxL (cmpY A) (xs.take k) x0) > 0 then xs.getD k 0 else maxL (cmpY A) (xs.take k) x0 by
      have hkl : k < xs.length := by omega
      rw [List.take_succ_eq_append_getElem hkl, maxL_snoc]
      have e : xs.getD k 0 = xs[k] := by simp [List.getD, hkl]
      rw [e])
    have hgt := Lib.hid (fun x y => cmpY_gt A x y)
    have hall := Lib.hid (show maxL (cmpY A) (xs.take n) x0 = maxL (cmpY A) xs x0 by rw [← hn, List.take_length])
    have hlc : (x0 :: xs).length = n + 1 := by simp [hn]
    simp only [hlc] at hl ⊢
    have hyl := Lib.hid (fun x y => show yLe A x y ↔ (ageL A x < ageL A y ∨ ageL A x = ageL A y ∧ x ≤ y) from Iff.rfl)
    clear hz hr hlc hch hn
    obtain ⟨R, hR⟩ : ∃ R, maxL (cmpY A) xs x0 = R := ⟨_, rfl⟩
    rw [hR] at hall ⊢
    clear hR
    rw [show decide (0 < n + 1) = true by simp]
    have in0 : ¬ (((n + 1 : Nat) : Int) = 0) := by omega
    have jn0 : ((((n + 1 : Nat) : Int)) == 0) = false := by rw [beq_eq_false_iff_ne]; omega
    have in1 : (0 : Int) < ((n + 1 : Nat) : Int) := by omega
    go_enter Tryz.func8, Tryz.ntmps8
    go_wp2_with fail
    go_loopg [6, 7] n (fun gm s6 s7 W => ∃ (k : Nat) (m : Int), k ≤ n ∧ gm = n - k ∧ s6 = .int .i64 m ∧ s7 = .int .i64 ((k : Int) + 1) ∧ Hid (m = maxL (cmpY A) (xs.take k) x0) ∧ W = w)
    case atStart => exact ⟨0, x0, Nat.zero_le _, rfl, rfl, rfl, Lib.hid rfl, rfl⟩
    case round =>
      obtain ⟨k, m, hk, hgm, rfl, rfl, hm, rfl⟩ := hrel
      have ij : ((n + 1 : Nat) : Int) = (n : Int) + 1 := by omega
      by_cases hlt : k < n
      · have zk := hcell.out k hlt
        have hs := hsn.out k hlt
        rw [← hm.out] at hs
        generalize xs.getD k 0 = x at *
        have hc := hgt.out x m
        rw [hyl.out] at hc
        have zk2 := zk
        rw [show k + 1 = ((k : Int) + 1).toNat by omega] at zk2
        have HX := Lib.hid (HA.out x)
        have HM := Lib.hid (HA.out m)
        generalize ageL A x = p at *
        generalize ageL A m = q at *
        generalize cmpY A x m = cv at *
        have i1 : (0 : Int) ≤ (k : Int) + 1 := by omega
        have i2 : (k : Int) + 1 < ((n + 1 : Nat) : Int) := by omega
        have i3 : (k : Int) + 1 < (n : Int) + 1 := by omega
        have hms := Lib.hid (show n - (k + 1) < n - k from Nat.sub_lt_sub_left hlt (Nat.lt_succ_self k))
        by_cases h1 : q < p
        · have e1 : decide (q < p) = true := decide_eq_true h1
          have hs2 : maxL (cmpY A) (xs.take (k + 1)) x0 = x := by rw [hs, if_pos (hc.2 (by omega))]
          replace hs2 := Lib.hid hs2
          clear hs hc
          go_wp2_with fail
          refine HX.out.mono ?_
          rintro e w1 ⟨rfl, rfl⟩
          go_wp2_with fail
          refine HM.out.mono ?_
          rintro e w1 ⟨rfl, rfl⟩
          go_wp2_with fail
          go_roundg (n - (k + 1))
          case measure => first | exact hms.out | (rw [hgm]; exact hms.out)
          case rel => exact ⟨k + 1, x, by omega, rfl, rfl, by go_num, Lib.hid hs2.out.symm, rfl⟩
        · have e1 : decide (q < p) = false := decide_eq_false h1
          by_cases h2 : p = q
          · subst h2
            have e2 : (p == p) = true := by simp
            by_cases h3 : m < x
            · have e3 : decide (m < x) = true := decide_eq_true h3
              have hs2 : maxL (cmpY A) (xs.take (k + 1)) x0 = x := by rw [hs, if_pos (hc.2 (by omega))]
              replace hs2 := Lib.hid hs2
              clear hs hc
              go_wp2_with fail
              refine HX.out.mono ?_
              rintro e w1 ⟨rfl, rfl⟩
              go_wp2_with fail
              refine HM.out.mono ?_
              rintro e w1 ⟨rfl, rfl⟩
              go_wp2_with fail
              go_roundg (n - (k + 1))
              case measure => first | exact hms.out | (rw [hgm]; exact hms.out)
              case rel => exact ⟨k + 1, x, by omega, rfl, rfl, by go_num, Lib.hid hs2.out.symm, rfl⟩
            · have e3 : decide (m < x) = false := decide_eq_false h3
              have hs2 : maxL (cmpY A) (xs.take (k + 1)) x0 = m := by rw [hs, if_neg (fun h => hc.1 h (by omega))]
              replace hs2 := Lib.hid hs2
              clear hs hc
              go_wp2_with fail
              refine HX.out.mono ?_
              rintro e w1 ⟨rfl, rfl⟩
              go_wp2_with fail
              refine HM.out.mono ?_
              rintro e w1 ⟨rfl, rfl⟩
              go_wp2_with fail
              go_roundg (n - (k + 1))
              case measure => first | exact hms.out | (rw [hgm]; exact hms.out)
              case rel => exact ⟨k + 1, m, by omega, rfl, rfl, by go_num, Lib.hid hs2.out.symm, rfl⟩
          · have e2 : (p == q) = false := by simpa using h2
            have hs2 : maxL (cmpY A) (xs.take (k + 1)) x0 = m := by rw [hs, if_neg (fun h => hc.1 h (by omega))]
            replace hs2 := Lib.hid hs2
            clear hs hc
            go_wp2_with fail
            refine HX.out.mono ?_
            rintro e w1 ⟨rfl, rfl⟩
            go_wp2_with fail
            refine HM.out.mono ?_
            rintro e w1 ⟨rfl, rfl⟩
            go_wp2_with fail
            go_roundg (n - (k + 1))
            case measure => first | exact hms.out | (rw [hgm]; exact hms.out)
            case rel => exact ⟨k + 1, m, by omega, rfl, rfl, by go_num, Lib.hid hs2.out.symm, rfl⟩
      · obtain rfl : k = n := by omega
        have hmr := hm.out.trans hall.out
        subst hmr
        have i3 : ¬ (k : Int) + 1 < ((k + 1 : Nat) : Int) := by omega
        have i4 : decide ((k : Int) + 1 < ((k + 1 : Nat) : Int)) = false := decide_eq_false i3
        go_wp2_with fail
        refine bodyPost_ret (v := .tuple #[.int .i64 m, .bool true]) (by simp [results, Tryz.results8, go_sem, *]) rfl ⟨rfl, rfl⟩
set_option maxHeartbeats 4000000 in
set_option maxRecDepth 100000 in
theorem victimsR_any (u v : Value) (L : List Ed) (A : List Ag) (w : World) (hu : RL w u 2 L.length (L.flatMap Ed.cells)) (hl : L.length ≤ 890) (hv : RL w v 2 A.length (A.flatMap Ag.cells)) (hA : A.length ≤ 1000) :
    Calls Tryz.prog 14 #[u, v] w fun e w' => ∃ a c, e = .returned (.slice a (vic A L).length c) ∧ Sep w' [vec 3 1 (.slice a (vic A L).length c) (vic A L).length ((vic A L).map (Value.int .i64)), old w] := by
  have HV := Lib.hid hv
  have HU := Lib.hid hu
  obtain ⟨i0, hi0, hz0, hz1, hz2⟩ := info_parts info_int
  obtain ⟨V, hVic⟩ : ∃ V, Hid (vic A L = V) := ⟨_, rfl⟩
  have h1c : Hid (∀ y, ∀ u ∈ ([.int .i64 y] : List Value), u.oneCell' = true) := Lib.hid (by simp [Value.oneCell'])
  have hV0 := Lib.hid (((Sep.gprop (p := True)).2 ⟨trivial, Sep.start w⟩).vec_nil 3 1)
  rw [hVic.out]
  clear hu hv
  go_enter Tryz.func14, Tryz.ntmps14
  go_wp2_with fail
  go_loopg [0, 5] L.length (fun gm s0 s5 W => ∃ (sv : Value) (L2 : List Ed) (o : List Int) (ao : Option Addr) (co : Nat) (R : Res), sv = s0 ∧ gm = L2.length ∧ s5 = .slice ao o.length co ∧ Hid (V = o ++ vic A L2) ∧ o.length + L2.length ≤ L.length ∧ Hid (∀ W rs, Sep W (R :: old w :: rs) → RL W sv 2 L2.length (L2.flatMap Ed.cells)) ∧ Hid (Sep W [vec 3 1 (.slice ao o.length co) o.length (o.map (Value.int .i64)), R, old w]))
  case atStart => exact ⟨u, L, [], none, 0, prop True, rfl, rfl, rfl, Lib.hid (by rw [← hVic.out]; rfl), by simp, Lib.hid (fun W rs h => HU.out.below h.tail.gold), hV0⟩
  case round =>
    clear hV0
    obtain ⟨sv, L2, o, ao, co, R, rfl, hgm, rfl, hE, hol, hR, hV⟩ := hrel
    have HC := Lib.hid (cycleR_any sv L2 wr (hR.out _ _ hV.out.to2.to2) (by omega))
    cases hc : (cyc L2).2 with
    | false =>
      rw [hc] at HC
      rw [vic_no A L2 hc, List.append_nil] at hE
      go_wp2_with fail
      refine HC.out.mono ?_
      rintro e w2 ⟨ca, cp, rfl, q⟩
      replace hV := Lib.hid (q.graft hV.out)
      clear q HC
      go_wp2_with fail
      go_ret
      rw [hE.out]
      exact ⟨ao, co, rfl, hV.out.tail.drop1⟩
    | true =>
      have hvy := Lib.hid (vic_yes A L2 hc)
      have hlt := keepL_lt A L2 hc
      have hok := cyc_ok L2
      rw [hc] at HC hok
      have hcl := cycL_len L2
      have hvc : vc A L2 = chL A (cyc L2).1 := rfl
      rw [hvy.out] at hE
      rw [hvc] at hlt hE
      clear hc hvy hvc
      generalize (cyc L2).1 = xs at *
      have HW := Lib.hid (fun W h => withoutR_any sv L2 (chL A xs) W h (by omega))
      have HCh := Lib.hid (fun u W h1 h2 => chooseR_any u v xs A W h1 (by omega) h2 hA)
      rw [← hok] at HCh
      generalize chL A xs = c at *
      obtain ⟨nx, hnx⟩ : ∃ nx, Hid (xs.length = nx) := ⟨_, rfl⟩
      rw [hnx.out] at HC
      clear hok hcl
      go_wp2_with fail
      refine HC.out.mono ?_
      rintro e w2 ⟨ca, cp, rfl, q⟩
      replace hV := Lib.hid (q.graft hV.out)
      clear q HC
      go_wp2_with fail
      refine (HCh.out _ _ hV.out.vec_ri (HV.out.below (hV.out.bring 3 rfl).gold)).mono ?_
      rintro e w3 ⟨rfl, rfl⟩
      replace hV := Lib.hid hV.out.tail
      clear HCh
      go_wp2_with (at_builtin; refine wpList_append_sep (hV.out.allocG _) rfl _ _ 24 rfl i0 _ 8 Tryz.underlying24 hi0 hz0 hz1 hz2 rfl (by decide) rfl 1 [.int .i64 c] (SrcA.one _ _ _ _) (h1c.out _) (by simp only [maxLen]; omega) (by omega) ?_; intro oa' oc' w4 q2; replace q2 := Lib.hid q2)
      refine (HW.out _ (hR.out _ _ q2.out.to2.to2)).mono ?_
      rintro e w5 ⟨wa, wc, rfl, q⟩
      replace hV := Lib.hid (q.graft q2.out)
      clear q q2 HW
      go_wp2_with fail
      go_roundg (keepL (onE c) L2).length
      case measure => omega
      case rel => exact ⟨_, keepL (onE c) L2, o ++ [c], oa', oc', vec 36 2 (.slice wa (keepL (onE c) L2).length wc) (keepL (onE c) L2).length ((keepL (onE c) L2).flatMap Ed.cells), rfl, rfl, by simp, Lib.hid (by rw [hE.out]; simp), by simp; omega, Lib.hid (fun W rs h => h.vec_rl), Lib.hid (by have h := hV.out.drop2.to1; simpa using h)⟩
end Go.Proofs.YthbamhfnemdebaaGreat
namespace Go.Proofs.YthbamhfnemdebaaGreat
open Go.RowKit Go.ChangeShapes Go.WideShapes Go.Deep
section
variable {H : Type} {enc : TypeId × Value → H} {P : Program} {w : World} {base : Nat} {spare : Nat → Bool} {held : Bool}
theorem open_slice_fields {t e : TypeId} {fs : Array Field} {fuel : Nat} {cs : List Value} {x : DataW H × List MemPlace} (ht : P.underlying t = some (.slice e)) (he : P.underlying e = some (.struct fs))
    (hone : oneCellFields P fs = true) (hC : P.cellsOf e = fs.size) (h : DataW.trod enc P w base spare held fuel t cs = some x) :
    (cs = [.slice none 0 0] ∧ x = (.nil, [])) ∨
    ∃ (a : Addr) (len cap m : Nat) (D : Nat → DataW H) (Pl : Nat → List MemPlace), cs = [.slice (some a) len cap] ∧ base ≤ a.block ∧ len ≤ cap ∧ cap ≤ maxLen ∧ m = (if spare a.block then cap else len) ∧
      x = (.slice ((List.range len).map D) ((List.range (m - len)).map fun j => D (len + j)), MemPlace.row a (m * fs.size) ++ (List.range m).flatMap Pl) ∧
      ∀ i, i < m → ∃ (ys : List (DataW H × List MemPlace)) (n : Nat), D i = .agg (ys.map (·.1)) ∧ Pl i = ys.flatMap (·.2) ∧ ys.length = fs.size ∧
        ∀ (j : Nat) (f : Field), fs[j]? = some f → ∃ (v : Value) (y : DataW H × List MemPlace), w.cell? (a.add (i * fs.size + j)) = some v ∧ ys[j]? = some y ∧ DataW.trod enc P w base spare held n f.type [v] = some y := by
  rcases open_slice ht h with h0 | ⟨a, len, cap, m, n, D, Pl, hcs, hb, hl, hm, hmm, hx, hi⟩
  · exact .inl h0
  · refine .inr ⟨a, len, cap, m, D, Pl, hcs, hb, hl, hm, hmm, by rw [hC] at hx; exact hx, fun i him => ?_⟩
    obtain ⟨cs', hc, ht'⟩ := hi i him
    rw [hC] at hc
    obtain ⟨ys, n', hn', hy, hlen, hyl, hf⟩ := DataW.trod_struct he ht'
    obtain ⟨_, hcl, hat⟩ := World.cells?_some hc
    simp only [Prod.mk.injEq] at hy
    refine ⟨ys, n', hy.1, hy.2, hyl, fun j f hj => ?_⟩
    obtain ⟨ho, hk⟩ := hone_of hone j f hj
    have hjl : j < fs.size := (Array.getElem?_eq_some_iff.1 hj).1
    have hcell := hat j hjl
    have hv : cs'[j]? = some (cs'[j]'(by omega)) := List.getElem?_eq_getElem (by omega)
    have h1 := hf j f hj
    rw [ho, hk] at h1
    have hone' : (cs'.drop j).take 1 = [cs'[j]'(by omega)] := by
      rw [List.drop_eq_getElem_cons (by omega)]
      rfl
    rw [hone'] at h1
    have hys : ys[j]? = some (ys[j]'(by omega)) := List.getElem?_eq_getElem (by omega)
    refine ⟨_, _, ?_, hys, h1.trans hys⟩
    rw [← Go.Deep.add_add, hcell, hv]

/-- A slice of structs of ints that came in, as the walks take it. -/
theorem rows_open {t e : TypeId} {fs : Array Field} {a : Option Addr} {len cap : Nat} {d : DataW H} {p : List MemPlace} (ht : P.underlying t = some (.slice e)) (he : P.underlying e = some (.struct fs))
    (hone : oneCellFields P fs = true) (hC : P.cellsOf e = fs.size) (hint : ∀ (j : Nat) (f : Field), fs[j]? = some f → P.underlying f.type = some (.int .i64))
    (hsz : 0 < fs.size) (h : DataW.Trod enc P w base spare held t (.slice a len cap) d p) : ∃ z, IsRows fs.size w a len cap z := by
  obtain ⟨fuel, hf⟩ := h
  rcases open_slice_fields ht he hone hC hf with ⟨hcs, _⟩ | ⟨x, l, c, m, D, Pl, hcs, _, hl, hm, hmm, _, hx⟩
  · simp [Value.cells] at hcs
    obtain ⟨rfl, rfl, rfl⟩ := hcs
    exact ⟨fun _ _ => 0, Nat.le_refl _, by simp [maxLen], fun h => absurd h (by omega)⟩
  · simp [Value.cells] at hcs
    obtain ⟨rfl, rfl, rfl⟩ := hcs
    have hlm : len ≤ m := by rw [hmm]; split <;> omega
    have key : ∀ i, i < len → ∀ j, j < fs.size → ∃ n, w.cell? (x.add (i * fs.size + j)) = some (.int .i64 n) ∧ (Lit.int .i64 n).wf = true := by
      intro i hi j hj
      obtain ⟨ys, n, _, _, _, hfs⟩ := hx i (by omega)
      obtain ⟨v, y, hcell, _, htr⟩ := hfs j fs[j] (Array.getElem?_eq_getElem hj)
      obtain ⟨q, hv, _, hwf⟩ := DataW.trod_int (hint j _ (Array.getElem?_eq_getElem hj)) htr
      injection hv with hv _
      subst hv
      exact ⟨q, hcell, hwf⟩
    refine ⟨fun i j => match w.cell? (x.add (i * fs.size + j)) with | some (.int _ n) => n | _ => 0, hl, hm, fun h0 => ?_⟩
    obtain ⟨n, hc, _⟩ := key 0 h0 0 hsz
    obtain ⟨b, off, sp⟩ := x
    have hsp : sp = none := by simpa [Addr.add] using World.cell?_spot hc
    subst hsp
    refine ⟨b, off, rfl, by simpa [Addr.add] using World.block_lt_of_cell? _ _ hc, fun i hi j hj => ?_⟩
    obtain ⟨q, hq, hwf⟩ := key i hi j hj
    have e : (⟨b, off, none⟩ : Addr).add (i * fs.size + j) = ⟨b, off + i * fs.size + j, none⟩ := by rw [Addr.add_lit]; simp [Nat.add_assoc]
    rw [e] at hq
    simp only [e, hq, true_and]
    exact hwf

/-- A slice of integers that came in, as the walks take it: the first len numbers. -/
def IsInts (k : IntKind) (w : World) (a : Option Addr) (len cap : Nat) (z : List Int) : Prop :=
  z.length = len ∧ len ≤ cap ∧ cap ≤ maxLen ∧ (0 < len → ∃ b off, a = some ⟨b, off, none⟩ ∧ b < w.heap.size ∧ ∀ i, i < len → w.cell? ⟨b, off + i, none⟩ = some (.int k (z.getD i 0)) ∧ (Lit.int k (z.getD i 0)).wf = true)
theorem ints_open {t e : TypeId} {k : IntKind} {a : Option Addr} {len cap : Nat} {d : DataW H} {p : List MemPlace} (ht : P.underlying t = some (.slice e)) (he : P.underlying e = some (.int k)) (hC : P.cellsOf e = 1)
    (h : DataW.Trod enc P w base spare held t (.slice a len cap) d p) : ∃ z, IsInts k w a len cap z := by
  obtain ⟨fuel, hf⟩ := h
  rcases open_ints ht he hC hf with ⟨hcs, _⟩ | ⟨x, l, c, zs, hcs, _, hl, hm, hz, _, hcell, hwz⟩
  · simp [Value.cells] at hcs
    obtain ⟨rfl, rfl, rfl⟩ := hcs
    exact ⟨[], rfl, Nat.le_refl _, by simp [maxLen], fun h => absurd h (by omega)⟩
  · simp [Value.cells] at hcs
    obtain ⟨rfl, rfl, rfl⟩ := hcs
    have hlz : len ≤ zs.length := by rw [hz]; split <;> omega
    refine ⟨zs.take len, by simp; omega, hl, hm, fun h0 => ?_⟩
    have hc := hcell 0 (by omega)
    obtain ⟨b, off, sp⟩ := x
    have hsp : sp = none := by simpa [Addr.add] using World.cell?_spot hc
    subst hsp
    refine ⟨b, off, rfl, by simpa [Addr.add] using World.block_lt_of_cell? _ _ hc, fun i hi => ?_⟩
    have h1 := hcell i (by omega)
    rw [Addr.add_lit] at h1
    have e : (zs.take len).getD i 0 = zs.getD i 0 := by simp [List.getD, List.getElem?_take, hi]
    rw [e]
    exact ⟨h1, hwz _ (by rw [List.getD, List.getElem?_eq_getElem (by omega)]; exact List.getElem_mem _)⟩

end
end Go.Proofs.YthbamhfnemdebaaGreat
namespace Go.Proofs.YthbamhfnemdebaaGreat
open Go.RowKit Go.ChangeShapes Go.WideShapes Go.Deep
theorem rows_nil {H : Type} {enc : TypeId × Value → H} {P : Program} {w : World} {base : Nat} {spare : Nat → Bool} {held : Bool} {t e : TypeId} {fs : Array Field} {a : Option Addr} {len cap : Nat} {d : DataW H} {p : List MemPlace} (ht : P.underlying t = some (.slice e)) (he : P.underlying e = some (.struct fs))
    (hone : oneCellFields P fs = true) (hC : P.cellsOf e = fs.size) (h : DataW.Trod enc P w base spare held t (.slice a len cap) d p) : a = none → cap = 0 := by
  obtain ⟨fuel, hf⟩ := h
  rcases open_slice_fields ht he hone hC hf with ⟨hcs, _⟩ | ⟨x, l, c, m, D, Pl, hcs, _⟩
  · simp [Value.cells] at hcs
    obtain ⟨rfl, rfl, rfl⟩ := hcs
    exact fun _ => rfl
  · simp [Value.cells] at hcs
    obtain ⟨rfl, rfl, rfl⟩ := hcs
    intro h
    cases h
theorem ints_nil {H : Type} {enc : TypeId × Value → H} {P : Program} {w : World} {base : Nat} {spare : Nat → Bool} {held : Bool} {t e : TypeId} {k : IntKind} {a : Option Addr} {len cap : Nat} {d : DataW H} {p : List MemPlace} (ht : P.underlying t = some (.slice e)) (he : P.underlying e = some (.int k)) (hC : P.cellsOf e = 1)
    (h : DataW.Trod enc P w base spare held t (.slice a len cap) d p) : a = none → cap = 0 := by
  obtain ⟨fuel, hf⟩ := h
  rcases open_ints ht he hC hf with ⟨hcs, _⟩ | ⟨x, l, c, zs, hcs, _⟩
  · simp [Value.cells] at hcs
    obtain ⟨rfl, rfl, rfl⟩ := hcs
    exact fun _ => rfl
  · simp [Value.cells] at hcs
    obtain ⟨rfl, rfl, rfl⟩ := hcs
    intro h
    cases h
end Go.Proofs.YthbamhfnemdebaaGreat
namespace Go.Proofs.YthbamhfnemdebaaGreat
open Go.RowKit
theorem fresh_int (w : World) : Sep (w.alloc (.cells #[] 3)) [vec 3 1 (.slice (some ⟨w.heap.size, 0, none⟩) 0 0) 0 [], old w] :=
  (Sep.start w).vec_new (World.ownsRow_made w #[] 0 (Nat.le_refl _) (Nat.zero_le _) rfl) ((Below.refl _ _).alloc (Nat.le_refl _) _)
theorem src_takeI {w : World} {g n c k : Nat} {O : List Int} {rs : List Res} (h : Sep w (vec 3 1 (.slice (some ⟨g, 0, none⟩) n c) n (O.map (Value.int .i64)) :: rs)) (hn : O.length = n) (hk : k ≤ n) : SrcA w 1 (.slice (some ⟨g, 0, none⟩) k c) k ((O.take k).map (Value.int .i64)) := by
  refine .inr ⟨_, _, rfl, by simp; omega, fun j u hj => ?_⟩
  rw [Addr.add_lit, Nat.zero_add]
  rw [List.map_take, List.getElem?_take] at hj
  split at hj
  · exact (h.vec_cell hj).1
  · cases hj
theorem src_dropI {w : World} {g n c k c' : Nat} {O : List Int} {rs : List Res} (h : Sep w (vec 3 1 (.slice (some ⟨g, 0, none⟩) n c) n (O.map (Value.int .i64)) :: rs)) (hn : O.length = n) : SrcA w 1 (.slice (some ⟨g, k, none⟩) (n - k) c') (n - k) ((O.drop k).map (Value.int .i64)) := by
  refine .inr ⟨_, _, rfl, by simp; omega, fun j u hj => ?_⟩
  rw [Addr.add_lit]
  rw [List.map_drop, List.getElem?_drop] at hj
  exact (h.vec_cell hj).1
theorem ints_one (O : List Int) : ∀ u ∈ O.map (Value.int .i64), u.oneCell' = true := by
  intro u hu
  obtain ⟨x, _, rfl⟩ := List.mem_map.1 hu
  rfl
theorem putI_new (L : List Int) (x : Int) (k : Nat) (hk : k ≤ L.length) (h1 : ∀ j, j < k → L.getD j 0 < x) (h2 : k < L.length → ¬ L.getD k 0 < x ∧ ¬ L.getD k 0 = x) : putI L x = L.take k ++ [x] ++ L.drop k := by
  have e := kI_eq L x k hk h1 (fun h => (h2 h).1)
  unfold putI
  rw [e, if_neg]
  intro h
  obtain ⟨h3, h4⟩ := List.getElem?_eq_some_iff.1 h
  exact (h2 h3).2 (by simpa [List.getD, h3] using h4)
theorem putI_old (L : List Int) (x : Int) (k : Nat) (hk : k < L.length) (h1 : ∀ j, j < k → L.getD j 0 < x) (h2 : L.getD k 0 = x) : putI L x = L := by
  have e := kI_eq L x k (by omega) h1 (fun h => by omega)
  unfold putI
  rw [e, if_pos]
  rw [List.getElem?_eq_getElem hk]
  simpa [List.getD, hk] using h2
set_option maxHeartbeats 8000000 in
set_option maxRecDepth 100000 in
theorem putR_any (a : Option Addr) (n c : Nat) (L : List Int) (x : Int) (w : World) (rs : List Res) (hS0 : Sep w (vec 3 1 (.slice a n c) n (L.map (Value.int .i64)) :: rs)) (hLn : L.length = n) (hn : n ≤ 100000) (hnil : n = 0 → a = none ∧ c = 0) :
    Calls Tryz.prog 66 #[.slice a n c, .int .i64 x] w fun e w' => ∃ a' c', e = .returned (.slice a' (putI L x).length c') ∧ Sep w' (vec 3 1 (.slice a' (putI L x).length c') (putI L x).length ((putI L x).map (Value.int .i64)) :: rs) ∧ 0 < (putI L x).length := by
  have hS := Lib.hid hS0
  obtain ⟨i0, hi0, hz0, hz1, hz2⟩ := info_parts info_intE
  have hio := Lib.hid ints_one
  have hcl : n ≤ c := by
    rcases Nat.eq_zero_or_pos n with h | h
    · omega
    · rcases hS0.gvec.2 with ⟨_, h0⟩ | ⟨g, cap, cur, hv, _, _, hnc, _⟩
      · omega
      · injection hv with _ _ e; omega
  rcases Nat.eq_zero_or_pos n with h0 | h0
  · subst h0
    obtain ⟨rfl, rfl⟩ := hnil rfl
    obtain rfl := List.eq_nil_of_length_eq_zero hLn
    rw [show putI [] x = [x] from rfl]
    clear hS0 hnil hcl
    go_enter Tryz.func66, Tryz.ntmps66
    go_wp2_with fail
    go_loopg [5] 0 (fun gm s5 W => gm = 0 ∧ s5 = .int .i64 0 ∧ W = w)
    case atStart => exact ⟨rfl, rfl, rfl⟩
    case round =>
      obtain ⟨rfl, rfl, rfl⟩ := hrel
      go_wp2_with (at_builtin; first | (refine wpList_append_sep ((fresh_int _).graft hS.out) rfl _ _ 24 rfl i0 (.int .i64 0) 8 Tryz.underlying24 hi0 hz0 hz1 hz2 rfl (by decide) rfl 0 [] (.inl ⟨rfl, rfl, rfl⟩) (by simp) (by simp only [maxLen]; omega) (by omega) ?_; intro na1 nc1 w4 q4; replace q4 := Lib.hid q4) | (refine wpList_append_sep (q4.out.allocG _) rfl _ _ 24 rfl i0 (.int .i64 0) 8 Tryz.underlying24 hi0 hz0 hz1 hz2 rfl (by decide) rfl 1 [.int .i64 x] (SrcA.one _ _ _ _) (by simp [Value.oneCell']) (by simp only [maxLen]; omega) (by omega) ?_; intro na2 nc2 w5 q5; replace q5 := Lib.hid q5) | (refine wpList_append_sep q5.out rfl _ _ 24 rfl i0 (.int .i64 0) 8 Tryz.underlying24 hi0 hz0 hz1 hz2 rfl (by decide) rfl 0 [] (.inl ⟨rfl, rfl, rfl⟩) (by simp) (by simp only [maxLen]; omega) (by omega) ?_; intro na3 nc3 w6 q6; replace q6 := Lib.hid q6))
      go_ret
      exact ⟨na3, nc3, rfl, q6.out.drop1, by simp⟩
  · obtain ⟨g, rfl⟩ : ∃ g, a = some ⟨g, 0, none⟩ := by
      rcases hS0.gvec.2 with ⟨_, h1⟩ | ⟨g, cap, cur, hv, _⟩
      · omega
      · injection hv with e1 _ _
        exact ⟨g, e1⟩
    have hnew := Lib.hid (putI_new L x)
    have hold := Lib.hid (putI_old L x)
    have hcell := Lib.hid (fun k (hk : k < n) => show w.cell? ⟨g, k, none⟩ = some (.int .i64 (L.getD k 0)) from (hS0.vec_cell (by rw [List.getElem?_map, List.getElem?_eq_getElem (show k < L.length by omega)]; simp [List.getD, show k < L.length by omega])).1)
    have hgl := (hS0.vec_cell (k := 0) (u := .int .i64 (L.getD 0 0)) (by rw [List.getElem?_map, List.getElem?_eq_getElem (show 0 < L.length by omega)]; simp [List.getD, show 0 < L.length by omega])).2.2
    have hTk := Lib.hid (show L.take n = L by rw [← hLn, List.take_length])
    have hDk := Lib.hid (show L.drop n = [] by rw [← hLn, List.drop_length])
    rw [hLn] at hnew hold
    replace hLn := Lib.hid hLn
    clear hS0 hnil
    go_enter Tryz.func66, Tryz.ntmps66
    go_wp2_with fail
    go_loopg [5] n (fun gm s5 W => ∃ k : Nat, k ≤ n ∧ gm = n - k ∧ s5 = .int .i64 k ∧ Hid (∀ j, j < k → L.getD j 0 < x) ∧ W = w)
    case atStart => exact ⟨0, Nat.zero_le _, rfl, rfl, Lib.hid (fun j h => absurd h (by omega)), rfl⟩
    case round =>
      obtain ⟨k, hk, hgm, rfl, hlow, rfl⟩ := hrel
      by_cases hlt : k < n
      · have z := hcell.out k hlt
        have hnw := Lib.hid (hnew.out k hk hlow.out)
        have hod := Lib.hid (hold.out k hlt hlow.out)
        have hlow2 := Lib.hid (fun (h : L.getD k 0 < x) j (hj : j < k + 1) => show L.getD j 0 < x from by
          rcases Nat.lt_or_ge j k with h1 | h1
          · exact hlow.out j h1
          · obtain rfl : j = k := by omega
            exact h)
        generalize L.getD k 0 = y at *
        have i1 : (0 : Int) ≤ (k : Int) := by omega
        have i2 : (k : Int) < (n : Int) := by omega
        by_cases hyx : y < x
        · have e1 : decide (y < x) = true := decide_eq_true hyx
          replace hlow2 := Lib.hid (hlow2.out hyx)
          go_wp2_with fail
          go_roundg (n - (k + 1))
          case measure => omega
          case rel => exact ⟨k + 1, by omega, rfl, by go_num, hlow2, rfl⟩
        · have e1 : decide (y < x) = false := decide_eq_false hyx
          by_cases hye : y = x
          · subst hye
            replace hod := Lib.hid (hod.out rfl)
            go_wp2_with fail
            go_ret
            exact ⟨some ⟨g, 0, none⟩, c, by rw [hod.out, hLn.out]; rfl, by rw [hod.out, hLn.out]; exact hS.out, by rw [hod.out, hLn.out]; exact h0⟩
          · have e2 : (y == x) = false := by simpa using hye
            replace hnw := Lib.hid (hnw.out (fun _ => ⟨by omega, hye⟩))
            have hkc : ¬ c = k := by omega
            have hkc2 : k ≤ c := by omega
            clear hod hlow2
            go_wp2_with (at_builtin; first | (refine wpList_append_sep ((fresh_int _).graft hS.out) rfl _ _ 24 rfl i0 (.int .i64 0) 8 Tryz.underlying24 hi0 hz0 hz1 hz2 rfl (by decide) rfl k ((L.take k).map (Value.int .i64)) (src_takeI ((fresh_int _).graft hS.out).to1 hLn.out hk) (hio.out _) (by simp only [maxLen]; omega) (by omega) ?_; intro na1 nc1 w4 q4; simp only [Nat.zero_add, List.nil_append] at q4; replace q4 := Lib.hid q4) | (refine wpList_append_sep (q4.out.allocG _) rfl _ _ 24 rfl i0 (.int .i64 0) 8 Tryz.underlying24 hi0 hz0 hz1 hz2 rfl (by decide) rfl 1 [.int .i64 x] (SrcA.one _ _ _ _) (by simp [Value.oneCell']) (by simp only [maxLen]; omega) (by omega) ?_; intro na2 nc2 w5 q5; replace q5 := Lib.hid q5) | (refine wpList_append_sep q5.out rfl _ _ 24 rfl i0 (.int .i64 0) 8 Tryz.underlying24 hi0 hz0 hz1 hz2 rfl (by decide) rfl (n - k) ((L.drop k).map (Value.int .i64)) (src_dropI q5.out.to1 hLn.out) (hio.out _) (by simp only [maxLen]; omega) (by omega) ?_; intro na3 nc3 w6 q6; replace q6 := Lib.hid q6))
            go_ret
            have hl2 : (putI L x).length = k + 1 + (n - k) := by rw [hnw.out]; simp [hLn.out]; omega
            rw [hl2]
            exact ⟨na3, nc3, rfl, by rw [hnw.out, List.map_append, List.map_append]; exact q6.out.drop1, by omega⟩
      · obtain rfl : k = n := by omega
        have hnw := Lib.hid (hnew.out k hk hlow.out (fun h => absurd h (by omega)))
        have hl2 : (putI L x).length = k + 1 := by rw [hnw.out, hTk.out, hDk.out]; simp [hLn.out]
        have hkc2 : k ≤ c := hcl
        have hk3 : ¬ (k : Int) = 0 := by omega
        by_cases hcc : c = k
        · subst hcc
          go_wp2_with (at_builtin; first | (refine wpList_append_sep ((fresh_int _).graft hS.out) rfl _ _ 24 rfl i0 (.int .i64 0) 8 Tryz.underlying24 hi0 hz0 hz1 hz2 rfl (by decide) rfl c ((L.take c).map (Value.int .i64)) (src_takeI ((fresh_int _).graft hS.out).to1 hLn.out (Nat.le_refl _)) (hio.out _) (by simp only [maxLen]; omega) (by omega) ?_; intro na1 nc1 w4 q4; simp only [Nat.zero_add, List.nil_append] at q4; replace q4 := Lib.hid q4) | (refine wpList_append_sep (q4.out.allocG _) rfl _ _ 24 rfl i0 (.int .i64 0) 8 Tryz.underlying24 hi0 hz0 hz1 hz2 rfl (by decide) rfl 1 [.int .i64 x] (SrcA.one _ _ _ _) (by simp [Value.oneCell']) (by simp only [maxLen]; omega) (by omega) ?_; intro na2 nc2 w5 q5; replace q5 := Lib.hid q5) | (refine wpList_append_sep q5.out rfl _ _ 24 rfl i0 (.int .i64 0) 8 Tryz.underlying24 hi0 hz0 hz1 hz2 rfl (by decide) rfl 0 [] (.inr ⟨_, _, rfl, rfl, fun j u hj => by simp at hj⟩) (by simp) (by simp only [maxLen]; omega) (by omega) ?_; intro na3 nc3 w6 q6; (try simp only [Nat.add_zero, List.append_nil] at q6); replace q6 := Lib.hid q6))
          go_ret
          rw [hl2]
          exact ⟨na3, nc3, rfl, by rw [hnw.out, hTk.out, hDk.out, List.append_nil, List.map_append]; have h := q6.out.drop1; rw [hTk.out] at h; exact h, by omega⟩
        · go_wp2_with (at_builtin; first | (refine wpList_append_sep ((fresh_int _).graft hS.out) rfl _ _ 24 rfl i0 (.int .i64 0) 8 Tryz.underlying24 hi0 hz0 hz1 hz2 rfl (by decide) rfl k ((L.take k).map (Value.int .i64)) (src_takeI ((fresh_int _).graft hS.out).to1 hLn.out (Nat.le_refl _)) (hio.out _) (by simp only [maxLen]; omega) (by omega) ?_; intro na1 nc1 w4 q4; simp only [Nat.zero_add, List.nil_append] at q4; replace q4 := Lib.hid q4) | (refine wpList_append_sep (q4.out.allocG _) rfl _ _ 24 rfl i0 (.int .i64 0) 8 Tryz.underlying24 hi0 hz0 hz1 hz2 rfl (by decide) rfl 1 [.int .i64 x] (SrcA.one _ _ _ _) (by simp [Value.oneCell']) (by simp only [maxLen]; omega) (by omega) ?_; intro na2 nc2 w5 q5; replace q5 := Lib.hid q5) | (refine wpList_append_sep q5.out rfl _ _ 24 rfl i0 (.int .i64 0) 8 Tryz.underlying24 hi0 hz0 hz1 hz2 rfl (by decide) rfl 0 [] (.inr ⟨_, _, rfl, rfl, fun j u hj => by simp at hj⟩) (by simp) (by simp only [maxLen]; omega) (by omega) ?_; intro na3 nc3 w6 q6; (try simp only [Nat.add_zero, List.append_nil] at q6); replace q6 := Lib.hid q6))
          go_ret
          rw [hl2]
          exact ⟨na3, nc3, rfl, by rw [hnw.out, hTk.out, hDk.out, List.append_nil, List.map_append]; have h := q6.out.drop1; rw [hTk.out] at h; exact h, by omega⟩
end Go.Proofs.YthbamhfnemdebaaGreat
namespace Go.Proofs.YthbamhfnemdebaaGreat
open Go.RowKit
/-- Ages as they come in. -/
def agL (len : Nat) (z : Nat → Nat → Int) : List Ag := (List.range len).map fun k : Nat => ⟨z k 0, z k 1⟩
theorem agL_len (len : Nat) (z : Nat → Nat → Int) : (agL len z).length = len := by simp [agL]
theorem agL_rl {w : World} {a : Option Addr} {len cap : Nat} {z : Nat → Nat → Int} (h : IsRows 2 w a len cap z) (hn : a = none → cap = 0) : RL w (.slice a len cap) 2 (agL len z).length ((agL len z).flatMap Ag.cells) := by
  refine ⟨flat_len Ag.cells 2 ag_len _, a, cap, by rw [agL_len], by rw [agL_len]; exact h.1, hn, fun h0 => ?_⟩
  rw [agL_len] at h0
  obtain ⟨b, off, rfl, hb, hz⟩ := h.2.2 h0
  refine ⟨b, off, rfl, hb, fun j u hj => ?_⟩
  have hj2 : j < len * 2 := by
    have := (List.getElem?_eq_some_iff.1 hj).1
    rw [flat_len Ag.cells 2 ag_len, agL_len] at this
    exact this
  have hk : (agL len z)[j / 2]? = some ⟨z (j / 2) 0, z (j / 2) 1⟩ := by
    unfold agL
    rw [List.getElem?_map, List.getElem?_range (by omega)]
    rfl
  have hf := flat_at Ag.cells 2 ag_len (agL len z) (j / 2) (j % 2) _ hk (by omega)
  rw [show j / 2 * 2 + j % 2 = j by omega, hj] at hf
  have hc := (hz (j / 2) (by omega) (j % 2) (by omega)).1
  rw [show off + j / 2 * 2 + j % 2 = off + j by omega] at hc
  rw [hc]
  have h2 : j % 2 = 0 ∨ j % 2 = 1 := by omega
  rcases h2 with h2 | h2
  · rw [h2] at hf ⊢; exact hf.symm
  · rw [h2] at hf ⊢; exact hf.symm
set_option maxHeartbeats 4000000 in
theorem own_any (a : Option Addr) (n c : Nat) (xs : List Int) (w : World) (hv : SrcA w 1 (.slice a n c) n (xs.map (Value.int .i64))) (hl : n ≤ 1000) :
    Calls Tryz.prog 7 #[.slice a n c] w fun e w' => ∃ a' c', e = .returned (.slice a' n c') ∧ Sep w' [vec 3 1 (.slice a' n c') n (xs.map (Value.int .i64)), old w] := by
  have h1 := Lib.hid (ints_one xs)
  obtain ⟨i0, hi, hz0, hz1, hz2⟩ := info_parts info_int
  have hE := Lib.hid (fresh_int w)
  have hS2 := Lib.hid (show SrcA (w.alloc (.cells #[] 3)) 1 (.slice a n c) n (xs.map (Value.int .i64)) from hv.below ((Below.refl _ _).alloc (Nat.le_refl _) _))
  clear hv
  go_enter Tryz.func7, Tryz.ntmps7
  go_wp2_with (at_builtin; refine wpList_append_sep hE.out rfl _ _ 24 rfl i0 _ 8 Tryz.underlying24 hi hz0 hz1 hz2 rfl (by decide) rfl n (xs.map (Value.int .i64)) hS2.out h1.out ?c3 ?c4 ?_)
  case c3 => simp only [maxLen]; omega
  case c4 => omega
  intro a' c' w1 hS1
  replace hS1 := Lib.hid hS1
  go_wp2_with fail
  go_ret
  exact ⟨a', c', rfl, hS1.out⟩
end Go.Proofs.YthbamhfnemdebaaGreat
