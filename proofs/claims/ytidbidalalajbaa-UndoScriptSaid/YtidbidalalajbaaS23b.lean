/-
  The reference's store: Put, Del, All. No condition beside a store that can be read.
-/
import Derived.Test.YtidbidalalajbaaS23
import Derived.Test.YtidbidalalajbaaHlN
namespace Go.Proofs.Ytidbidalalajbaa
open Go.RowKit
theorem Sep.to_q {w wq : World} {m : Nat} {rs : List Res} (h : Sep w rs) (e : World.drewN w m = wq) : Sep wq rs := e ▸ h.drewN m
theorem insR_eq {n : Int × Int} (v : Int) {p : (Int × Int) × Int} (L : Ent) (b : Bool) (h : p.1 = n) : insR n v (p :: L) b = insR n v L b := by simp only [insR, if_pos h]
theorem insR_lt {n : Int × Int} (v : Int) {p : (Int × Int) × Int} (L : Ent) (h : ¬ p.1 = n) (h2 : ltB n p.1 = true) : insR n v (p :: L) false = (n, v) :: p :: insR n v L true := by simp only [insR, if_neg h, h2]; simp
theorem insR_ge {n : Int × Int} (v : Int) {p : (Int × Int) × Int} (L : Ent) (h : ¬ p.1 = n) (h2 : ltB n p.1 = false) : insR n v (p :: L) false = p :: insR n v L false := by simp only [insR, if_neg h, h2]; simp
theorem insR_on {n : Int × Int} (v : Int) {p : (Int × Int) × Int} (L : Ent) (h : ¬ p.1 = n) : insR n v (p :: L) true = p :: insR n v L true := by simp only [insR, if_neg h]; simp
theorem cmp_lt (t r x y : Int) : decide (cmpN t r x y < 0) = ltB (t, r) (x, y) := by
  have := cmpN_spec t r x y
  unfold ltB
  rw [decide_eq_decide]
  simp only
  omega
theorem row_flat (o : Ent) (x : (Int × Int) × Int) : (o ++ [x]).flatMap rowC = o.flatMap rowC ++ [.int .i64 x.1.1, .int .i64 x.1.2, .int .i64 x.2] := by
  rw [List.flatMap_append]
  simp [rowC]
set_option maxHeartbeats 16000000 in
set_option maxRecDepth 100000 in
theorem putR_good (p : Nat) (a : Option Addr) (c : Nat) (L : Ent) (t r v : Int) (w : World) (rs : List Res) (hS : Sep w (rst p a c L rs)) (hn : L.length ≤ 900) (hrec : isRec (t, r) = true) :
    Calls Try.prog 23 #[.pointer (some ⟨p, 0, none⟩), (.agg #[.int .i64 t, .int .i64 r]), .int .i64 v] w fun e w' => ∃ a' c', e = .returned (.tuple #[wasV t r L, .int .i64 0]) ∧ Sep w' (rst p a' c' (insR (t, r) v L false) rs) := by
  have HR := Lib.hid (fun W => recR_any t r W)
  rw [hrec] at HR
  clear hrec
  have HWs := Lib.hid (fun W rs h => rwas_any p a c L t r W rs h (by omega))
  obtain ⟨i0, hi0, hz0, hz1, hz2⟩ := info_parts info_row
  obtain ⟨V, hV⟩ : ∃ V, Hid (insR (t, r) v L false = V) := ⟨_, rfl⟩
  rw [hV.out]
  unfold wasV at HWs ⊢
  generalize hgv : (getL L (t, r)).getD 0 = gv at *
  generalize hgh : hasL L (t, r) = gh at *
  replace hgv := Lib.hid hgv
  replace hgh := Lib.hid hgh
  have hB := Lib.hid (was_boxes w t r hS)
  obtain ⟨n, hl⟩ : ∃ n, L.length = n := ⟨_, rfl⟩
  clear hS
  unfold rst at *
  rw [hl] at HWs hB hn
  replace hl := Lib.hid hl
  generalize hgs : w.heap.size = g at *
  replace hgs := Lib.hid hgs
  obtain ⟨_, d0, d1, _⟩ := hB.out.to1.b2
  go_enter Try.func23, Try.ntmps23
  go_wp2_with fail
  rw [hgs.out] at *
  refine (HR.out _).mono ?_
  rintro e w1 ⟨rfl, b1⟩
  replace hB := Lib.hid (hB.out.below b1)
  clear b1 HR d0 d1
  obtain ⟨_, d0, d1, _⟩ := hB.out.to1.b2
  go_wp2_with fail
  refine (HWs.out _ _ hB.out.to3.to3).mono ?_
  rintro e w2 ⟨rfl, q⟩
  replace hB := Lib.hid ((q.alloc #[.int .i64 t, .int .i64 r, .int .i64 gv, .bool gh] 31).to4.to4.to2.vec_nil 59 3)
  clear q HWs d0 d1
  go_wp2_with fail
  generalize hgs2 : w2.heap.size = g2 at *
  replace hgs2 := Lib.hid hgs2
  go_loopg [9, 10, 11] n (fun gm s9 s10 s11 W => ∃ (k : Nat) (oa : Option Addr) (oc : Nat) (o : Ent) (bb : Bool), k ≤ n ∧ gm = n - k ∧ s9 = .slice oa o.length oc ∧ s10 = .bool bb ∧ s11 = .int .i64 k ∧ Hid (V = o ++ insR (t, r) v (L.drop k) bb) ∧ Hid (o.length ≤ k + 1) ∧ Hid (bb = false → o.length ≤ k) ∧ Hid (Sep W (vec 59 3 (.slice oa o.length oc) o.length (o.flatMap rowC) :: blk g2 31 #[.int .i64 t, .int .i64 r, .int .i64 gv, .bool gh] :: blk (g + 1) 31 #[.int .i64 0, .int .i64 0, .int .i64 0, .bool false] :: blk g 28 #[.int .i64 t, .int .i64 r] :: blk p 77 #[.slice a n c] :: vec 59 3 (.slice a n c) n (L.flatMap rowC) :: rs)))
  case atStart => exact ⟨0, none, 0, [], false, Nat.zero_le _, rfl, rfl, rfl, rfl, Lib.hid (by rw [← hV.out]; rfl), Lib.hid (by simp), Lib.hid (by simp), hB⟩
  case round =>
    clear hB
    obtain ⟨k, oa, oc, o, bb, hk, hgm, rfl, rfl, rfl, hE, hol, hol2, hB⟩ := hrel
    by_cases hlt : k < n
    · obtain ⟨b, off, rfl, hb, zz0⟩ := row_cells (hB.out.bring 5 rfl).vec_rl hl.out (by omega)
      have hkl : k < L.length := by rw [hl.out]; exact hlt
      have hx0 : L[k]? = some L[k] := List.getElem?_eq_getElem hkl
      have hdr := List.drop_eq_getElem_cons hkl
      rw [hdr] at hE
      generalize L[k] = xx at hx0 hE
      clear hdr zz0 hkl
      obtain ⟨⟨x, y⟩, u⟩ := xx
      have hx := Lib.hid hx0
      clear hx0
      have hW := hB.out
      obtain ⟨_, d0, d1, _⟩ := (hW.bring 3 rfl).b2
      obtain ⟨_, c0, _⟩ := (hW.bring 4 rfl).b1
      obtain ⟨b', off', e1, hb', zz⟩ := row_cells (hW.bring 5 rfl).vec_rl hl.out (by omega)
      injection e1 with e1
      injection e1 with e1 e2 e3
      subst e1
      subst e2
      obtain ⟨z0, z1, z2⟩ := zz k _ hx.out
      simp only [← Nat.add_assoc, Nat.add_zero] at z0 z1 z2
      clear zz
      replace hW := Lib.hid hW
      clear hW hb' e3
      have i1 : (0 : Int) ≤ (k : Int) := by omega
      have i2 : (k : Int) < (n : Int) := by omega
      have hms := Lib.hid (show n - (k + 1) < n - k from Nat.sub_lt_sub_left hlt (Nat.lt_succ_self k))
      have hq := fun W => run_eql_name x t y r W
      have hiff := eqB_name_iff x t y r
      generalize eqB_name x t y r = eb at hiff hq
      by_cases he : (x, y) = (t, r)
      · rw [insR_eq v _ _ he] at hE
        obtain ⟨rfl, rfl⟩ := Prod.mk.inj he
        obtain rfl : eb = true := hiff.trans (decide_eq_true ⟨rfl, rfl⟩)
        clear hiff he
        go_wp2_with fail
        go_quiet (fail)
        go_wp2_with fail
        go_roundg (n - (k + 1))
        case measure => first | exact hms.out | (rw [hgm]; exact hms.out)
        case rel => exact ⟨k + 1, oa, oc, o, bb, by omega, rfl, rfl, rfl, by go_num, hE, Lib.hid (by have := hol.out; omega), Lib.hid (fun h => by have := hol2.out h; omega), Lib.hid (hB.out.drewN _)⟩
      · obtain rfl : eb = false := hiff.trans (decide_eq_false fun e => he (by rw [e.1, e.2]))
        clear hiff
        cases bb with
        | true =>
          rw [insR_on v _ he] at hE
          replace he := Lib.hid he
          go_wp2_with fail
          go_quiet (fail)
          generalize hwq : World.drewN _ _ = wq
          replace hB := Lib.hid (hB.out.to_q hwq)
          clear hwq
          clear d0 d1 c0 z0 z1 z2
          have hW := hB.out
          obtain ⟨_, d0, d1, _⟩ := (hW.bring 3 rfl).b2
          obtain ⟨_, c0, _⟩ := (hW.bring 4 rfl).b1
          obtain ⟨b', off', e1, hb', zz⟩ := row_cells (hW.bring 5 rfl).vec_rl hl.out (by omega)
          injection e1 with e1
          injection e1 with e1 e2 e3
          subst e1
          subst e2
          obtain ⟨z0, z1, z2⟩ := zz k _ hx.out
          simp only [← Nat.add_assoc, Nat.add_zero] at z0 z1 z2
          clear zz
          replace hW := Lib.hid hW
          clear hW hb' e3
          go_wp2_with fail
          go_quiet (fail)
          generalize hwq : World.drewN _ _ = wq
          replace hB := Lib.hid (hB.out.to_q hwq)
          clear hwq
          clear d0 d1 c0 z0 z1 z2
          have hW := hB.out
          obtain ⟨_, d0, d1, _⟩ := (hW.bring 3 rfl).b2
          obtain ⟨_, c0, _⟩ := (hW.bring 4 rfl).b1
          obtain ⟨b', off', e1, hb', zz⟩ := row_cells (hW.bring 5 rfl).vec_rl hl.out (by omega)
          injection e1 with e1
          injection e1 with e1 e2 e3
          subst e1
          subst e2
          obtain ⟨z0, z1, z2⟩ := zz k _ hx.out
          simp only [← Nat.add_assoc, Nat.add_zero] at z0 z1 z2
          clear zz
          replace hW := Lib.hid hW
          clear hW hb' e3
          go_wp2_with (at_builtin; refine wpList_append_sep (hB.out.allocG _) rfl _ _ 60 rfl i0 _ 24 Try.underlying60 hi0 hz0 hz1 hz2 rfl (by decide) rfl 1 [.int .i64 x, .int .i64 y, .int .i64 u] (srcA_row _ #[.int .i64 x, .int .i64 y, .int .i64 u] _ _ 3 rfl) (by simp [Value.oneCell']) (by have := hol.out; simp only [maxLen]; omega) (by have := hol.out; omega) ?_; intro oa2 oc2 w6 q2; replace q2 := Lib.hid q2)
          go_roundg (n - (k + 1))
          case measure => first | exact hms.out | (rw [hgm]; exact hms.out)
          case rel => exact ⟨k + 1, oa2, oc2, o ++ [((x, y), u)], true, by omega, rfl, by simp, rfl, by go_num, Lib.hid (by rw [hE.out]; simp), Lib.hid (by have := hol.out; simp; omega), Lib.hid (fun h => by cases h), Lib.hid (by rw [row_flat]; simpa using q2.out)⟩
        | false =>
          have hcl := cmp_lt t r x y
          have HCm := Lib.hid (fun W => compareR_any t r x y W)
          generalize cmpN t r x y = cq at hcl HCm
          go_wp2_with fail
          go_quiet (fail)
          generalize hwq : World.drewN _ _ = wq
          replace hB := Lib.hid (hB.out.to_q hwq)
          clear hwq
          clear d0 d1 c0 z0 z1 z2
          cases hlb : ltB (t, r) (x, y) with
          | true =>
            rw [insR_lt v _ he hlb] at hE
            rw [hlb] at hcl
            have hcl2 := of_decide_eq_true hcl
            replace he := Lib.hid he
            replace hlb := Lib.hid hlb
            go_wp2_with fail
            replace hB := Lib.hid hB.out.drew
            have hS := Lib.hid (show (fun W : World => ∃ u m cs, Sep W (vec 59 3 u m cs :: blk g2 31 #[.int .i64 t, .int .i64 r, .int .i64 gv, .bool gh] :: blk (g + 1) 31 #[.int .i64 0, .int .i64 0, .int .i64 0, .bool false] :: blk g 28 #[.int .i64 t, .int .i64 r] :: blk p 77 #[.slice (some ⟨b, off, none⟩) n c] :: vec 59 3 (.slice (some ⟨b, off, none⟩) n c) n (L.flatMap rowC) :: rs)) _ from ⟨_, _, _, hB.out⟩)
            refine hl_begin (fun W : World => ∃ u m cs, Sep W (vec 59 3 u m cs :: blk g2 31 #[.int .i64 t, .int .i64 r, .int .i64 gv, .bool gh] :: blk (g + 1) 31 #[.int .i64 0, .int .i64 0, .int .i64 0, .bool false] :: blk g 28 #[.int .i64 t, .int .i64 r] :: blk p 77 #[.slice (some ⟨b, off, none⟩) n c] :: vec 59 3 (.slice (some ⟨b, off, none⟩) n c) n (L.flatMap rowC) :: rs)) [(0, true), (1, true), (2, true), (3, true), (4, true), (5, true), (6, true), (7, true), (8, true), (9, true), (10, true), (11, true), (12, false), (13, true), (14, true)] (by kernel_rfl) (by kernel_rfl) (by kernel_rfl) rfl (fun _ _ _ _ _ h => h) hS.out ?_
            change HL _ _ _ _ _ _ (World.drew _)
            generalize World.drew _ = wd at *
            refine hl_take ?v1 rfl (by kernel_rfl) ?y1 ?z1
            case y1 => intro W hW; skip; replace hW := Lib.hid hW; go_simp; try rfl
            case z1 =>
            simp only [Act.put, List.setIfInBounds_toArray, List.set_cons_succ, List.set_cons_zero, List.getElem_toArray, List.getElem_cons_zero, List.getElem_cons_succ]
            refine hl_take ?v2 rfl (by kernel_rfl) ?y2 ?z2
            case y2 => intro W hW; skip; replace hW := Lib.hid hW; go_simp; try rfl
            case z2 =>
            simp only [Act.put, List.setIfInBounds_toArray, List.set_cons_succ, List.set_cons_zero, List.getElem_toArray, List.getElem_cons_zero, List.getElem_cons_succ]
            refine hl_take ?v3 rfl (by kernel_rfl) ?y3 ?z3
            case y3 => intro W hW; skip; replace hW := Lib.hid hW; go_simp; try rfl
            case z3 =>
            simp only [Act.put, List.setIfInBounds_toArray, List.set_cons_succ, List.set_cons_zero, List.getElem_toArray, List.getElem_cons_zero, List.getElem_cons_succ]
            refine hl_take ?v4 rfl (by kernel_rfl) ?y4 ?z4
            case y4 => intro W hW; obtain ⟨_, _, _, hW⟩ := hW; obtain ⟨_, d0, d1, _⟩ := (hW.bring 3 rfl).b2; obtain ⟨_, c0, _⟩ := (hW.bring 4 rfl).b1; obtain ⟨b', off', e1, hb', zz⟩ := row_cells (hW.bring 5 rfl).vec_rl hl.out (by omega); injection e1 with e1; injection e1 with e1 e2 e3; subst e1; subst e2; obtain ⟨z0, z1, z2⟩ := zz k _ hx.out; simp only [← Nat.add_assoc, Nat.add_zero] at z0 z1 z2; clear zz; replace hW := Lib.hid hW; go_simp; try rfl
            case z4 =>
            simp only [Act.put, List.setIfInBounds_toArray, List.set_cons_succ, List.set_cons_zero, List.getElem_toArray, List.getElem_cons_zero, List.getElem_cons_succ]
            refine hl_take ?v5 rfl (by kernel_rfl) ?y5 ?z5
            case y5 => intro W hW; skip; replace hW := Lib.hid hW; go_simp; try rfl
            case z5 =>
            simp only [Act.put, List.setIfInBounds_toArray, List.set_cons_succ, List.set_cons_zero, List.getElem_toArray, List.getElem_cons_zero, List.getElem_cons_succ]
            refine hl_take ?v6 rfl (by kernel_rfl) ?y6 ?z6
            case y6 => intro W hW; skip; replace hW := Lib.hid hW; go_simp; try rfl
            case z6 =>
            simp only [Act.put, List.setIfInBounds_toArray, List.set_cons_succ, List.set_cons_zero, List.getElem_toArray, List.getElem_cons_zero, List.getElem_cons_succ]
            refine hl_take ?v7 rfl (by kernel_rfl) ?y7 ?z7
            case y7 => intro W hW; skip; replace hW := Lib.hid hW; go_simp; try rfl
            case z7 =>
            simp only [Act.put, List.setIfInBounds_toArray, List.set_cons_succ, List.set_cons_zero, List.getElem_toArray, List.getElem_cons_zero, List.getElem_cons_succ]
            refine hl_take ?v8 rfl (by kernel_rfl) ?y8 ?z8
            case y8 => intro W hW; obtain ⟨_, _, _, hW⟩ := hW; obtain ⟨_, d0, d1, _⟩ := (hW.bring 3 rfl).b2; obtain ⟨_, c0, _⟩ := (hW.bring 4 rfl).b1; obtain ⟨b', off', e1, hb', zz⟩ := row_cells (hW.bring 5 rfl).vec_rl hl.out (by omega); injection e1 with e1; injection e1 with e1 e2 e3; subst e1; subst e2; obtain ⟨z0, z1, z2⟩ := zz k _ hx.out; simp only [← Nat.add_assoc, Nat.add_zero] at z0 z1 z2; clear zz; replace hW := Lib.hid hW; go_simp; try rfl
            case z8 =>
            simp only [Act.put, List.setIfInBounds_toArray, List.set_cons_succ, List.set_cons_zero, List.getElem_toArray, List.getElem_cons_zero, List.getElem_cons_succ]
            refine hl_take ?v9 rfl (by kernel_rfl) ?y9 ?z9
            case y9 => intro W hW; skip; replace hW := Lib.hid hW; go_simp; try rfl
            case z9 =>
            simp only [Act.put, List.setIfInBounds_toArray, List.set_cons_succ, List.set_cons_zero, List.getElem_toArray, List.getElem_cons_zero, List.getElem_cons_succ]
            refine hl_take ?v10 rfl (by kernel_rfl) ?y10 ?z10
            case y10 => intro W hW; skip; replace hW := Lib.hid hW; go_simp; try rfl
            case z10 =>
            simp only [Act.put, List.setIfInBounds_toArray, List.set_cons_succ, List.set_cons_zero, List.getElem_toArray, List.getElem_cons_zero, List.getElem_cons_succ]
            refine hl_take ?v11 rfl (by kernel_rfl) ?y11 ?z11
            case y11 => intro W hW; skip; replace hW := Lib.hid hW; go_simp; try rfl
            case z11 =>
            simp only [Act.put, List.setIfInBounds_toArray, List.set_cons_succ, List.set_cons_zero, List.getElem_toArray, List.getElem_cons_zero, List.getElem_cons_succ]
            refine hl_take ?v12 rfl (by kernel_rfl) ?y12 ?z12
            case y12 => intro W hW; obtain ⟨_, _, _, hW⟩ := hW; obtain ⟨_, d0, d1, _⟩ := (hW.bring 3 rfl).b2; obtain ⟨_, c0, _⟩ := (hW.bring 4 rfl).b1; obtain ⟨b', off', e1, hb', zz⟩ := row_cells (hW.bring 5 rfl).vec_rl hl.out (by omega); injection e1 with e1; injection e1 with e1 e2 e3; subst e1; subst e2; obtain ⟨z0, z1, z2⟩ := zz k _ hx.out; simp only [← Nat.add_assoc, Nat.add_zero] at z0 z1 z2; clear zz; replace hW := Lib.hid hW; go_simp; try rfl
            case z12 =>
            simp only [Act.put, List.setIfInBounds_toArray, List.set_cons_succ, List.set_cons_zero, List.getElem_toArray, List.getElem_cons_zero, List.getElem_cons_succ]
            refine hl_one rfl (by kernel_rfl) (fun K hK => ?_)
            go_simp
            refine (HCm.out _).mono ?_
            rintro e w5 ⟨rfl, b5⟩
            replace hB := Lib.hid (hB.out.below b5)
            clear b5
            refine hK.out _ _ ⟨_, _, _, hB.out⟩ ?_
            clear hK K
            try simp only [Act.put, List.setIfInBounds_toArray, List.set_cons_succ, List.set_cons_zero, List.getElem_toArray, List.getElem_cons_zero, List.getElem_cons_succ]
            refine hl_take ?v13 rfl (by kernel_rfl) ?y13 ?z13
            case y13 => intro W hW; skip; replace hW := Lib.hid hW; go_simp; try rfl
            case z13 =>
            simp only [Act.put, List.setIfInBounds_toArray, List.set_cons_succ, List.set_cons_zero, List.getElem_toArray, List.getElem_cons_zero, List.getElem_cons_succ]
            refine hl_take ?v14 rfl (by kernel_rfl) ?y14 ?z14
            case y14 => intro W hW; skip; replace hW := Lib.hid hW; go_simp; try rfl
            case z14 =>
            simp only [Act.put, List.setIfInBounds_toArray, List.set_cons_succ, List.set_cons_zero, List.getElem_toArray, List.getElem_cons_zero, List.getElem_cons_succ]
            refine hl_done ?_
            clear hS
            clear HCm
            have hW := hB.out
            obtain ⟨_, d0, d1, _⟩ := (hW.bring 3 rfl).b2
            obtain ⟨_, c0, _⟩ := (hW.bring 4 rfl).b1
            obtain ⟨b', off', e1, hb', zz⟩ := row_cells (hW.bring 5 rfl).vec_rl hl.out (by omega)
            injection e1 with e1
            injection e1 with e1 e2 e3
            subst e1
            subst e2
            obtain ⟨z0, z1, z2⟩ := zz k _ hx.out
            simp only [← Nat.add_assoc, Nat.add_zero] at z0 z1 z2
            clear zz
            replace hW := Lib.hid hW
            clear hW hb' e3
            go_wp2_with (first | (at_builtin; refine wpList_append_sep (hB.out.allocG _) rfl _ _ 60 rfl i0 _ 24 Try.underlying60 hi0 hz0 hz1 hz2 rfl (by decide) rfl 1 [.int .i64 t, .int .i64 r, .int .i64 v] (srcA_row _ #[.int .i64 t, .int .i64 r, .int .i64 v] _ _ 3 rfl) (by simp [Value.oneCell']) (by have := hol.out; simp only [maxLen]; omega) (by have := hol.out; omega) ?_; intro oa2 oc2 w6 q2; replace q2 := Lib.hid q2; have hW := q2.out; clear d0 d1 c0 z0 z1 z2; obtain ⟨_, d0, d1, _⟩ := (hW.bring 3 rfl).b2; obtain ⟨_, c0, _⟩ := (hW.bring 4 rfl).b1; obtain ⟨b', off', e1, hb', zz⟩ := row_cells (hW.bring 5 rfl).vec_rl hl.out (by omega); injection e1 with e1; injection e1 with e1 e2 e3; subst e1; subst e2; obtain ⟨z0, z1, z2⟩ := zz k _ hx.out; simp only [← Nat.add_assoc, Nat.add_zero] at z0 z1 z2; clear zz; replace hW := Lib.hid hW) | (at_builtin; refine wpList_append_sep (q2.out.allocG _) rfl _ _ 60 rfl i0 _ 24 Try.underlying60 hi0 hz0 hz1 hz2 rfl (by decide) rfl 1 [.int .i64 x, .int .i64 y, .int .i64 u] (srcA_row _ #[.int .i64 x, .int .i64 y, .int .i64 u] _ _ 3 rfl) (by simp [Value.oneCell']) (by have := hol.out; simp only [maxLen]; simp; omega) (by have := hol.out; simp; omega) ?_; intro oa3 oc3 w7 q3; replace q3 := Lib.hid q3))
            go_roundg (n - (k + 1))
            case measure => first | exact hms.out | (rw [hgm]; exact hms.out)
            case rel => exact ⟨k + 1, oa3, oc3, (o ++ [((t, r), v)]) ++ [((x, y), u)], true, by omega, rfl, by simp, rfl, by go_num, Lib.hid (by rw [hE.out]; simp), Lib.hid (by have := hol2.out trivial; simp; omega), Lib.hid (fun h => by cases h), Lib.hid (by rw [row_flat, row_flat]; simpa using q3.out)⟩
          | false =>
            rw [insR_ge v _ he hlb] at hE
            rw [hlb] at hcl
            have hcl2 := of_decide_eq_false hcl
            replace he := Lib.hid he
            replace hlb := Lib.hid hlb
            go_wp2_with fail
            replace hB := Lib.hid hB.out.drew
            have hS := Lib.hid (show (fun W : World => ∃ u m cs, Sep W (vec 59 3 u m cs :: blk g2 31 #[.int .i64 t, .int .i64 r, .int .i64 gv, .bool gh] :: blk (g + 1) 31 #[.int .i64 0, .int .i64 0, .int .i64 0, .bool false] :: blk g 28 #[.int .i64 t, .int .i64 r] :: blk p 77 #[.slice (some ⟨b, off, none⟩) n c] :: vec 59 3 (.slice (some ⟨b, off, none⟩) n c) n (L.flatMap rowC) :: rs)) _ from ⟨_, _, _, hB.out⟩)
            refine hl_begin (fun W : World => ∃ u m cs, Sep W (vec 59 3 u m cs :: blk g2 31 #[.int .i64 t, .int .i64 r, .int .i64 gv, .bool gh] :: blk (g + 1) 31 #[.int .i64 0, .int .i64 0, .int .i64 0, .bool false] :: blk g 28 #[.int .i64 t, .int .i64 r] :: blk p 77 #[.slice (some ⟨b, off, none⟩) n c] :: vec 59 3 (.slice (some ⟨b, off, none⟩) n c) n (L.flatMap rowC) :: rs)) [(0, true), (1, true), (2, true), (3, true), (4, true), (5, true), (6, true), (7, true), (8, true), (9, true), (10, true), (11, true), (12, false), (13, true), (14, true)] (by kernel_rfl) (by kernel_rfl) (by kernel_rfl) rfl (fun _ _ _ _ _ h => h) hS.out ?_
            change HL _ _ _ _ _ _ (World.drew _)
            generalize World.drew _ = wd at *
            refine hl_take ?v15 rfl (by kernel_rfl) ?y15 ?z15
            case y15 => intro W hW; skip; replace hW := Lib.hid hW; go_simp; try rfl
            case z15 =>
            simp only [Act.put, List.setIfInBounds_toArray, List.set_cons_succ, List.set_cons_zero, List.getElem_toArray, List.getElem_cons_zero, List.getElem_cons_succ]
            refine hl_take ?v16 rfl (by kernel_rfl) ?y16 ?z16
            case y16 => intro W hW; skip; replace hW := Lib.hid hW; go_simp; try rfl
            case z16 =>
            simp only [Act.put, List.setIfInBounds_toArray, List.set_cons_succ, List.set_cons_zero, List.getElem_toArray, List.getElem_cons_zero, List.getElem_cons_succ]
            refine hl_take ?v17 rfl (by kernel_rfl) ?y17 ?z17
            case y17 => intro W hW; skip; replace hW := Lib.hid hW; go_simp; try rfl
            case z17 =>
            simp only [Act.put, List.setIfInBounds_toArray, List.set_cons_succ, List.set_cons_zero, List.getElem_toArray, List.getElem_cons_zero, List.getElem_cons_succ]
            refine hl_take ?v18 rfl (by kernel_rfl) ?y18 ?z18
            case y18 => intro W hW; obtain ⟨_, _, _, hW⟩ := hW; obtain ⟨_, d0, d1, _⟩ := (hW.bring 3 rfl).b2; obtain ⟨_, c0, _⟩ := (hW.bring 4 rfl).b1; obtain ⟨b', off', e1, hb', zz⟩ := row_cells (hW.bring 5 rfl).vec_rl hl.out (by omega); injection e1 with e1; injection e1 with e1 e2 e3; subst e1; subst e2; obtain ⟨z0, z1, z2⟩ := zz k _ hx.out; simp only [← Nat.add_assoc, Nat.add_zero] at z0 z1 z2; clear zz; replace hW := Lib.hid hW; go_simp; try rfl
            case z18 =>
            simp only [Act.put, List.setIfInBounds_toArray, List.set_cons_succ, List.set_cons_zero, List.getElem_toArray, List.getElem_cons_zero, List.getElem_cons_succ]
            refine hl_take ?v19 rfl (by kernel_rfl) ?y19 ?z19
            case y19 => intro W hW; skip; replace hW := Lib.hid hW; go_simp; try rfl
            case z19 =>
            simp only [Act.put, List.setIfInBounds_toArray, List.set_cons_succ, List.set_cons_zero, List.getElem_toArray, List.getElem_cons_zero, List.getElem_cons_succ]
            refine hl_take ?v20 rfl (by kernel_rfl) ?y20 ?z20
            case y20 => intro W hW; skip; replace hW := Lib.hid hW; go_simp; try rfl
            case z20 =>
            simp only [Act.put, List.setIfInBounds_toArray, List.set_cons_succ, List.set_cons_zero, List.getElem_toArray, List.getElem_cons_zero, List.getElem_cons_succ]
            refine hl_take ?v21 rfl (by kernel_rfl) ?y21 ?z21
            case y21 => intro W hW; skip; replace hW := Lib.hid hW; go_simp; try rfl
            case z21 =>
            simp only [Act.put, List.setIfInBounds_toArray, List.set_cons_succ, List.set_cons_zero, List.getElem_toArray, List.getElem_cons_zero, List.getElem_cons_succ]
            refine hl_take ?v22 rfl (by kernel_rfl) ?y22 ?z22
            case y22 => intro W hW; obtain ⟨_, _, _, hW⟩ := hW; obtain ⟨_, d0, d1, _⟩ := (hW.bring 3 rfl).b2; obtain ⟨_, c0, _⟩ := (hW.bring 4 rfl).b1; obtain ⟨b', off', e1, hb', zz⟩ := row_cells (hW.bring 5 rfl).vec_rl hl.out (by omega); injection e1 with e1; injection e1 with e1 e2 e3; subst e1; subst e2; obtain ⟨z0, z1, z2⟩ := zz k _ hx.out; simp only [← Nat.add_assoc, Nat.add_zero] at z0 z1 z2; clear zz; replace hW := Lib.hid hW; go_simp; try rfl
            case z22 =>
            simp only [Act.put, List.setIfInBounds_toArray, List.set_cons_succ, List.set_cons_zero, List.getElem_toArray, List.getElem_cons_zero, List.getElem_cons_succ]
            refine hl_take ?v23 rfl (by kernel_rfl) ?y23 ?z23
            case y23 => intro W hW; skip; replace hW := Lib.hid hW; go_simp; try rfl
            case z23 =>
            simp only [Act.put, List.setIfInBounds_toArray, List.set_cons_succ, List.set_cons_zero, List.getElem_toArray, List.getElem_cons_zero, List.getElem_cons_succ]
            refine hl_take ?v24 rfl (by kernel_rfl) ?y24 ?z24
            case y24 => intro W hW; skip; replace hW := Lib.hid hW; go_simp; try rfl
            case z24 =>
            simp only [Act.put, List.setIfInBounds_toArray, List.set_cons_succ, List.set_cons_zero, List.getElem_toArray, List.getElem_cons_zero, List.getElem_cons_succ]
            refine hl_take ?v25 rfl (by kernel_rfl) ?y25 ?z25
            case y25 => intro W hW; skip; replace hW := Lib.hid hW; go_simp; try rfl
            case z25 =>
            simp only [Act.put, List.setIfInBounds_toArray, List.set_cons_succ, List.set_cons_zero, List.getElem_toArray, List.getElem_cons_zero, List.getElem_cons_succ]
            refine hl_take ?v26 rfl (by kernel_rfl) ?y26 ?z26
            case y26 => intro W hW; obtain ⟨_, _, _, hW⟩ := hW; obtain ⟨_, d0, d1, _⟩ := (hW.bring 3 rfl).b2; obtain ⟨_, c0, _⟩ := (hW.bring 4 rfl).b1; obtain ⟨b', off', e1, hb', zz⟩ := row_cells (hW.bring 5 rfl).vec_rl hl.out (by omega); injection e1 with e1; injection e1 with e1 e2 e3; subst e1; subst e2; obtain ⟨z0, z1, z2⟩ := zz k _ hx.out; simp only [← Nat.add_assoc, Nat.add_zero] at z0 z1 z2; clear zz; replace hW := Lib.hid hW; go_simp; try rfl
            case z26 =>
            simp only [Act.put, List.setIfInBounds_toArray, List.set_cons_succ, List.set_cons_zero, List.getElem_toArray, List.getElem_cons_zero, List.getElem_cons_succ]
            refine hl_one rfl (by kernel_rfl) (fun K hK => ?_)
            go_simp
            refine (HCm.out _).mono ?_
            rintro e w5 ⟨rfl, b5⟩
            replace hB := Lib.hid (hB.out.below b5)
            clear b5
            refine hK.out _ _ ⟨_, _, _, hB.out⟩ ?_
            clear hK K
            try simp only [Act.put, List.setIfInBounds_toArray, List.set_cons_succ, List.set_cons_zero, List.getElem_toArray, List.getElem_cons_zero, List.getElem_cons_succ]
            refine hl_take ?v27 rfl (by kernel_rfl) ?y27 ?z27
            case y27 => intro W hW; skip; replace hW := Lib.hid hW; go_simp; try rfl
            case z27 =>
            simp only [Act.put, List.setIfInBounds_toArray, List.set_cons_succ, List.set_cons_zero, List.getElem_toArray, List.getElem_cons_zero, List.getElem_cons_succ]
            refine hl_take ?v28 rfl (by kernel_rfl) ?y28 ?z28
            case y28 => intro W hW; skip; replace hW := Lib.hid hW; go_simp; try rfl
            case z28 =>
            simp only [Act.put, List.setIfInBounds_toArray, List.set_cons_succ, List.set_cons_zero, List.getElem_toArray, List.getElem_cons_zero, List.getElem_cons_succ]
            refine hl_done ?_
            clear hS
            clear HCm
            have hW := hB.out
            obtain ⟨_, d0, d1, _⟩ := (hW.bring 3 rfl).b2
            obtain ⟨_, c0, _⟩ := (hW.bring 4 rfl).b1
            obtain ⟨b', off', e1, hb', zz⟩ := row_cells (hW.bring 5 rfl).vec_rl hl.out (by omega)
            injection e1 with e1
            injection e1 with e1 e2 e3
            subst e1
            subst e2
            obtain ⟨z0, z1, z2⟩ := zz k _ hx.out
            simp only [← Nat.add_assoc, Nat.add_zero] at z0 z1 z2
            clear zz
            replace hW := Lib.hid hW
            clear hW hb' e3
            go_wp2_with (at_builtin; refine wpList_append_sep (hB.out.allocG _) rfl _ _ 60 rfl i0 _ 24 Try.underlying60 hi0 hz0 hz1 hz2 rfl (by decide) rfl 1 [.int .i64 x, .int .i64 y, .int .i64 u] (srcA_row _ #[.int .i64 x, .int .i64 y, .int .i64 u] _ _ 3 rfl) (by simp [Value.oneCell']) (by have := hol.out; simp only [maxLen]; omega) (by have := hol.out; omega) ?_; intro oa2 oc2 w6 q2; replace q2 := Lib.hid q2)
            go_roundg (n - (k + 1))
            case measure => first | exact hms.out | (rw [hgm]; exact hms.out)
            case rel => exact ⟨k + 1, oa2, oc2, o ++ [((x, y), u)], false, by omega, rfl, by simp, rfl, by go_num, Lib.hid (by rw [hE.out]; simp), Lib.hid (by have := hol.out; simp; omega), Lib.hid (fun _ => by have := hol2.out trivial; simp; omega), Lib.hid (by rw [row_flat]; simpa using q2.out)⟩
    · obtain rfl : k = n := by omega
      rw [List.drop_eq_nil_of_le (by rw [hl.out]; exact Nat.le_refl _)] at hE
      cases bb with
      | true =>
        have hfin := Lib.hid (show V = o by rw [hE.out]; simp [insR])
        have hZ1 := Lib.hid ((hB.out.bring 4 rfl).set 0 (.slice oa (o).length oc))
        obtain ⟨_, c0, fc⟩ := (hB.out.bring 4 rfl).b1
        obtain ⟨_, e0, e1, e2, e3, f0, f1, f2, f3⟩ := (hZ1.out.bring 3 rfl).b4
        obtain ⟨_, y0, y1, y2, y3, _⟩ := (hZ1.out.bring 2 rfl).b4
        have hZ := Lib.hid (((((hZ1.out.bring 3 rfl).set 0 (.int .i64 t)).set 1 (.int .i64 r)).set 2 (.int .i64 gv)).set 3 (.bool gh))
        clear hZ1
        clear hB hE hgm
        go_wp2_with fail
        refine bodyPost_ret (v := .tuple #[.agg #[.int .i64 t, .int .i64 r, .int .i64 gv, .bool gh], .int .i64 0]) (by simp [results, Try.results23, go_sem, *]) rfl ?_
        rw [hfin.out]
        first | exact ⟨oa, oc, rfl, hZ.out.tail.to2.tail.to2.tail.to2.tail⟩ | exact ⟨rfl, oa, oc, hZ.out.tail.to2.tail.to2.tail.to2.tail⟩
      | false =>
        have hfin := Lib.hid (show V = o ++ [((t, r), v)] by rw [hE.out]; simp [insR])
        obtain ⟨_, d0, d1, _⟩ := (hB.out.bring 3 rfl).b2
        obtain ⟨_, c00, _⟩ := (hB.out.bring 4 rfl).b1
        clear hE hgm
        go_wp2_with (at_builtin; refine wpList_append_sep (hB.out.allocG _) rfl _ _ 60 rfl i0 _ 24 Try.underlying60 hi0 hz0 hz1 hz2 rfl (by decide) rfl 1 [.int .i64 t, .int .i64 r, .int .i64 v] (srcA_row _ #[.int .i64 t, .int .i64 r, .int .i64 v] _ _ 3 rfl) (by simp [Value.oneCell']) (by have := hol.out; simp only [maxLen]; omega) (by have := hol.out; omega) ?_; intro oa2 oc2 w6 q2; replace q2 := Lib.hid q2; clear d0 d1 c00; rw [← row_flat o ((t, r), v)] at q2; have hZ1 := Lib.hid ((q2.out.bring 4 rfl).set 0 (.slice oa2 (o.length + 1) oc2)); obtain ⟨_, c0, fc⟩ := (q2.out.bring 4 rfl).b1; obtain ⟨_, e0, e1, e2, e3, f0, f1, f2, f3⟩ := (hZ1.out.bring 3 rfl).b4; obtain ⟨_, y0, y1, y2, y3, _⟩ := (hZ1.out.bring 2 rfl).b4; have hZ := Lib.hid (((((hZ1.out.bring 3 rfl).set 0 (.int .i64 t)).set 1 (.int .i64 r)).set 2 (.int .i64 gv)).set 3 (.bool gh)); clear hZ1; clear q2)
        go_wp2_with fail
        refine bodyPost_ret (v := .tuple #[.agg #[.int .i64 t, .int .i64 r, .int .i64 gv, .bool gh], .int .i64 0]) (by simp [results, Try.results23, go_sem, *]) rfl ?_
        rw [hfin.out, List.length_append]
        first | exact ⟨oa2, oc2, rfl, hZ.out.tail.to2.tail.to2.tail.to2.tail⟩ | exact ⟨rfl, oa2, oc2, hZ.out.tail.to2.tail.to2.tail.to2.tail⟩
theorem delL_eq {n : Int × Int} {p : (Int × Int) × Int} (L : Ent) (h : p.1 = n) : delL (p :: L) n = delL L n := by simp [delL, h]
theorem delL_ne {n : Int × Int} {p : (Int × Int) × Int} (L : Ent) (h : ¬ p.1 = n) : delL (p :: L) n = p :: delL L n := by simp [delL, h]
set_option maxHeartbeats 16000000 in
set_option maxRecDepth 100000 in
theorem delR_good (p : Nat) (a : Option Addr) (c : Nat) (L : Ent) (t r : Int) (w : World) (rs : List Res) (hS : Sep w (rst p a c L rs)) (hn : L.length ≤ 900) (hrec : isRec (t, r) = true) :
    Calls Try.prog 26 #[.pointer (some ⟨p, 0, none⟩), (.agg #[.int .i64 t, .int .i64 r])] w fun e w' => ∃ a' c', e = .returned (.tuple #[wasV t r L, .int .i64 0]) ∧ Sep w' (rst p a' c' (delL L (t, r)) rs) := by
  have HR := Lib.hid (fun W => recR_any t r W)
  rw [hrec] at HR
  clear hrec
  have HWs := Lib.hid (fun W rs h => rwas_any p a c L t r W rs h (by omega))
  obtain ⟨i0, hi0, hz0, hz1, hz2⟩ := info_parts info_row
  obtain ⟨V, hV⟩ : ∃ V, Hid (delL L (t, r) = V) := ⟨_, rfl⟩
  rw [hV.out]
  unfold wasV at HWs ⊢
  generalize hgv : (getL L (t, r)).getD 0 = gv at *
  generalize hgh : hasL L (t, r) = gh at *
  replace hgv := Lib.hid hgv
  replace hgh := Lib.hid hgh
  have hB := Lib.hid (was_boxes w t r hS)
  obtain ⟨n, hl⟩ : ∃ n, L.length = n := ⟨_, rfl⟩
  clear hS
  unfold rst at *
  rw [hl] at HWs hB hn
  replace hl := Lib.hid hl
  generalize hgs : w.heap.size = g at *
  replace hgs := Lib.hid hgs
  obtain ⟨_, d0, d1, _⟩ := hB.out.to1.b2
  go_enter Try.func26, Try.ntmps26
  go_wp2_with fail
  rw [hgs.out] at *
  refine (HR.out _).mono ?_
  rintro e w1 ⟨rfl, b1⟩
  replace hB := Lib.hid (hB.out.below b1)
  clear b1 HR d0 d1
  obtain ⟨_, d0, d1, _⟩ := hB.out.to1.b2
  go_wp2_with fail
  refine (HWs.out _ _ hB.out.to3.to3).mono ?_
  rintro e w2 ⟨rfl, q⟩
  replace hB := Lib.hid ((q.alloc #[.int .i64 t, .int .i64 r, .int .i64 gv, .bool gh] 31).to4.to4.to2.vec_nil 59 3)
  clear q HWs d0 d1
  go_wp2_with fail
  generalize hgs2 : w2.heap.size = g2 at *
  replace hgs2 := Lib.hid hgs2
  go_loopg [7, 8] n (fun gm s7 s8 W => ∃ (k : Nat) (oa : Option Addr) (oc : Nat) (o : Ent), k ≤ n ∧ gm = n - k ∧ s7 = .slice oa o.length oc ∧ s8 = .int .i64 k ∧ Hid (V = o ++ delL (L.drop k) (t, r)) ∧ Hid (o.length ≤ k) ∧ Hid (Sep W (vec 59 3 (.slice oa o.length oc) o.length (o.flatMap rowC) :: blk g2 31 #[.int .i64 t, .int .i64 r, .int .i64 gv, .bool gh] :: blk (g + 1) 31 #[.int .i64 0, .int .i64 0, .int .i64 0, .bool false] :: blk g 28 #[.int .i64 t, .int .i64 r] :: blk p 77 #[.slice a n c] :: vec 59 3 (.slice a n c) n (L.flatMap rowC) :: rs)))
  case atStart => exact ⟨0, none, 0, [], Nat.zero_le _, rfl, rfl, rfl, Lib.hid (by rw [← hV.out]; rfl), Lib.hid (by simp), hB⟩
  case round =>
    clear hB
    obtain ⟨k, oa, oc, o, hk, hgm, rfl, rfl, hE, hol, hB⟩ := hrel
    by_cases hlt : k < n
    · obtain ⟨b, off, rfl, hb, zz0⟩ := row_cells (hB.out.bring 5 rfl).vec_rl hl.out (by omega)
      have hkl : k < L.length := by rw [hl.out]; exact hlt
      have hx0 : L[k]? = some L[k] := List.getElem?_eq_getElem hkl
      have hdr := List.drop_eq_getElem_cons hkl
      rw [hdr] at hE
      generalize L[k] = xx at hx0 hE
      clear hdr zz0 hkl
      obtain ⟨⟨x, y⟩, u⟩ := xx
      have hx := Lib.hid hx0
      clear hx0
      have hW := hB.out
      obtain ⟨_, d0, d1, _⟩ := (hW.bring 3 rfl).b2
      obtain ⟨_, c0, _⟩ := (hW.bring 4 rfl).b1
      obtain ⟨b', off', e1, hb', zz⟩ := row_cells (hW.bring 5 rfl).vec_rl hl.out (by omega)
      injection e1 with e1
      injection e1 with e1 e2 e3
      subst e1
      subst e2
      obtain ⟨z0, z1, z2⟩ := zz k _ hx.out
      simp only [← Nat.add_assoc, Nat.add_zero] at z0 z1 z2
      clear zz
      replace hW := Lib.hid hW
      clear hW hb' e3
      have i1 : (0 : Int) ≤ (k : Int) := by omega
      have i2 : (k : Int) < (n : Int) := by omega
      have hms := Lib.hid (show n - (k + 1) < n - k from Nat.sub_lt_sub_left hlt (Nat.lt_succ_self k))
      have hq := fun W => run_neq_name x t y r W
      have hiff := eqB_name_iff x t y r
      generalize eqB_name x t y r = eb at hiff hq
      by_cases he : (x, y) = (t, r)
      · rw [delL_eq _ he] at hE
        obtain ⟨rfl, rfl⟩ := Prod.mk.inj he
        obtain rfl : eb = true := hiff.trans (decide_eq_true ⟨rfl, rfl⟩)
        clear hiff he
        go_wp2_with fail
        go_quiet (fail)
        go_wp2_with fail
        go_roundg (n - (k + 1))
        case measure => first | exact hms.out | (rw [hgm]; exact hms.out)
        case rel => exact ⟨k + 1, oa, oc, o, by omega, rfl, rfl, by go_num, hE, Lib.hid (by have := hol.out; omega), Lib.hid (hB.out.drewN _)⟩
      · obtain rfl : eb = false := hiff.trans (decide_eq_false fun e => he (by rw [e.1, e.2]))
        rw [delL_ne _ he] at hE
        clear hiff
        replace he := Lib.hid he
        go_wp2_with fail
        go_quiet (fail)
        generalize hwq : World.drewN _ _ = wq
        replace hB := Lib.hid (hB.out.to_q hwq)
        clear hwq
        clear d0 d1 c0 z0 z1 z2
        have hW := hB.out
        obtain ⟨_, d0, d1, _⟩ := (hW.bring 3 rfl).b2
        obtain ⟨_, c0, _⟩ := (hW.bring 4 rfl).b1
        obtain ⟨b', off', e1, hb', zz⟩ := row_cells (hW.bring 5 rfl).vec_rl hl.out (by omega)
        injection e1 with e1
        injection e1 with e1 e2 e3
        subst e1
        subst e2
        obtain ⟨z0, z1, z2⟩ := zz k _ hx.out
        simp only [← Nat.add_assoc, Nat.add_zero] at z0 z1 z2
        clear zz
        replace hW := Lib.hid hW
        clear hW hb' e3
        go_wp2_with (at_builtin; refine wpList_append_sep (hB.out.allocG _) rfl _ _ 60 rfl i0 _ 24 Try.underlying60 hi0 hz0 hz1 hz2 rfl (by decide) rfl 1 [.int .i64 x, .int .i64 y, .int .i64 u] (srcA_row _ #[.int .i64 x, .int .i64 y, .int .i64 u] _ _ 3 rfl) (by simp [Value.oneCell']) (by have := hol.out; simp only [maxLen]; omega) (by have := hol.out; omega) ?_; intro oa2 oc2 w6 q2; replace q2 := Lib.hid q2)
        go_roundg (n - (k + 1))
        case measure => first | exact hms.out | (rw [hgm]; exact hms.out)
        case rel => exact ⟨k + 1, oa2, oc2, o ++ [((x, y), u)], by omega, rfl, by simp, by go_num, Lib.hid (by rw [hE.out]; simp), Lib.hid (by have := hol.out; simp; omega), Lib.hid (by rw [row_flat]; simpa using q2.out)⟩
    · obtain rfl : k = n := by omega
      rw [List.drop_eq_nil_of_le (by rw [hl.out]; exact Nat.le_refl _)] at hE
      have hfin := Lib.hid (show V = o by rw [hE.out]; simp [delL])
      have hZ1 := Lib.hid ((hB.out.bring 4 rfl).set 0 (.slice oa (o).length oc))
      obtain ⟨_, c0, fc⟩ := (hB.out.bring 4 rfl).b1
      obtain ⟨_, e0, e1, e2, e3, f0, f1, f2, f3⟩ := (hZ1.out.bring 3 rfl).b4
      obtain ⟨_, y0, y1, y2, y3, _⟩ := (hZ1.out.bring 2 rfl).b4
      have hZ := Lib.hid (((((hZ1.out.bring 3 rfl).set 0 (.int .i64 t)).set 1 (.int .i64 r)).set 2 (.int .i64 gv)).set 3 (.bool gh))
      clear hZ1
      clear hB hE hgm
      go_wp2_with fail
      refine bodyPost_ret (v := .tuple #[.agg #[.int .i64 t, .int .i64 r, .int .i64 gv, .bool gh], .int .i64 0]) (by simp [results, Try.results26, go_sem, *]) rfl ?_
      rw [hfin.out]
      first | exact ⟨oa, oc, rfl, hZ.out.tail.to2.tail.to2.tail.to2.tail⟩ | exact ⟨rfl, oa, oc, hZ.out.tail.to2.tail.to2.tail.to2.tail⟩
set_option maxHeartbeats 4000000 in
theorem putR_bad (p : Nat) (a : Option Addr) (c : Nat) (L : Ent) (t r v : Int) (w : World) (rs : List Res) (hS : Sep w (rst p a c L rs)) (hrec : isRec (t, r) = false) :
    Calls Try.prog 23 #[.pointer (some ⟨p, 0, none⟩), (.agg #[.int .i64 t, .int .i64 r]), .int .i64 v] w fun e w' => e = .returned (.tuple #[was0, .int .i64 2]) ∧ Sep w' (rst p a c L rs) := by
  have HR := Lib.hid (fun W => recR_any t r W)
  rw [hrec] at HR
  clear hrec
  have hB := Lib.hid (was_boxes w t r hS)
  clear hS
  unfold was0
  generalize hgs : w.heap.size = g at *
  replace hgs := Lib.hid hgs
  obtain ⟨_, d0, d1, _⟩ := hB.out.to1.b2
  go_enter Try.func23, Try.ntmps23
  go_wp2_with fail
  rw [hgs.out] at *
  refine (HR.out _).mono ?_
  rintro e w1 ⟨rfl, b1⟩
  replace hB := Lib.hid (hB.out.below b1)
  clear b1 HR d0 d1
  obtain ⟨_, e0, e1, e2, e3, f0, f1, f2, f3⟩ := hB.out.b4
  have hZ := Lib.hid ((((hB.out.set 0 (.int .i64 0)).set 1 (.int .i64 0)).set 2 (.int .i64 0)).set 3 (.bool false))
  go_wp2_with fail
  refine bodyPost_ret (v := .tuple #[.agg #[.int .i64 0, .int .i64 0, .int .i64 0, .bool false], .int .i64 2]) (by simp [results, Try.results23, go_sem, *]) rfl ⟨rfl, ?_⟩
  exact hZ.out.tail.tail
set_option maxHeartbeats 4000000 in
theorem delR_bad (p : Nat) (a : Option Addr) (c : Nat) (L : Ent) (t r : Int) (w : World) (rs : List Res) (hS : Sep w (rst p a c L rs)) (hrec : isRec (t, r) = false) :
    Calls Try.prog 26 #[.pointer (some ⟨p, 0, none⟩), (.agg #[.int .i64 t, .int .i64 r])] w fun e w' => e = .returned (.tuple #[was0, .int .i64 2]) ∧ Sep w' (rst p a c L rs) := by
  have HR := Lib.hid (fun W => recR_any t r W)
  rw [hrec] at HR
  clear hrec
  have hB := Lib.hid (was_boxes w t r hS)
  clear hS
  unfold was0
  generalize hgs : w.heap.size = g at *
  replace hgs := Lib.hid hgs
  obtain ⟨_, d0, d1, _⟩ := hB.out.to1.b2
  go_enter Try.func26, Try.ntmps26
  go_wp2_with fail
  rw [hgs.out] at *
  refine (HR.out _).mono ?_
  rintro e w1 ⟨rfl, b1⟩
  replace hB := Lib.hid (hB.out.below b1)
  clear b1 HR d0 d1
  obtain ⟨_, e0, e1, e2, e3, f0, f1, f2, f3⟩ := hB.out.b4
  have hZ := Lib.hid ((((hB.out.set 0 (.int .i64 0)).set 1 (.int .i64 0)).set 2 (.int .i64 0)).set 3 (.bool false))
  go_wp2_with fail
  refine bodyPost_ret (v := .tuple #[.agg #[.int .i64 0, .int .i64 0, .int .i64 0, .bool false], .int .i64 2]) (by simp [results, Try.results26, go_sem, *]) rfl ⟨rfl, ?_⟩
  exact hZ.out.tail.tail
theorem fresh_row (w : World) : Sep (w.alloc (.cells #[] 59)) [vec 59 3 (.slice (some ⟨w.heap.size, 0, none⟩) 0 0) 0 [], old w] :=
  (Sep.start w).vec_new (World.ownsRow_made w #[] 0 (Nat.le_refl _) (Nat.zero_le _) rfl) ((Below.refl _ _).alloc (Nat.le_refl _) _)
set_option maxHeartbeats 4000000 in
theorem allR_any (p : Nat) (a : Option Addr) (c : Nat) (L : Ent) (w : World) (rs : List Res) (hS : Sep w (rst p a c L rs)) (hn : L.length ≤ 1000) :
    Calls Try.prog 32 #[.pointer (some ⟨p, 0, none⟩)] w fun e w' => ∃ a' c', e = .returned (.slice a' L.length c') ∧ Sep w' (vec 59 3 (.slice a' L.length c') L.length (L.flatMap rowC) :: rst p a c L rs) := by
  have hr1 := Lib.hid (rows_one L)
  obtain ⟨i0, hi0, hz0, hz1, hz2⟩ := info_parts info_row
  have hE := Lib.hid ((fresh_row w).graft hS)
  have hsrc := Lib.hid (show SrcA (w.alloc (.cells #[] 59)) 3 (.slice a L.length c) L.length (L.flatMap rowC) from (show Sep _ (_ :: _ :: vec 59 3 (.slice a L.length c) L.length (L.flatMap rowC) :: rs) from hE.out).to2.vec_rl.srcA)
  obtain ⟨_, c0, _⟩ := (show Sep _ (_ :: blk p 77 #[.slice a L.length c] :: _) from hE.out).to1.b1
  clear hS
  generalize hl : L.length = n at *
  replace hl := Lib.hid hl
  go_enter Try.func32, Try.ntmps32
  go_wp2_with (at_builtin; refine wpList_append_sep hE.out rfl _ _ 60 rfl i0 _ 24 Try.underlying60 hi0 hz0 hz1 hz2 rfl (by decide) rfl n (L.flatMap rowC) hsrc.out hr1.out (by simp only [maxLen]; omega) (by omega) ?_; intro a' c' w1 hS1; try simp only [Nat.zero_add, List.nil_append] at hS1; replace hS1 := Lib.hid hS1)
  go_ret
  exact ⟨a', c', by simp, hS1.out⟩
end Go.Proofs.Ytidbidalalajbaa
