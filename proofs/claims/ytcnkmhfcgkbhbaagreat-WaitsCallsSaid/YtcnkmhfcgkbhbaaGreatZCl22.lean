/-
  Contracts and plain laws that the walk leans on, part 22. No condition.
-/
import Derived.Test.YtcnkmhfcgkbhbaaGreatZCl21
namespace Go.Proofs.YtcnkmhfcgkbhbaaGreat
open Go.RowKit
/-- What is found so far: rising, and reached. -/
def RcJ (L : List Ed) (fr : Int) (O : List Int) : Prop := O.Pairwise (· < ·) ∧ ∀ x ∈ O, Rd (nxL L) fr x
def closedE (fr : Int) (O : List Int) (e : Ed) : Prop := (e.from_ = fr ∨ e.from_ ∈ O) → e.tgt ∈ O
def closedK (L : List Ed) (fr : Int) (O : List Int) (k : Nat) : Prop := ∀ e ∈ L.take k, closedE fr O e
theorem closed_step {L : List Ed} {fr : Int} {O : List Int} {k : Nat} (h : closedK L fr O k) {e : Ed} (he : L[k]? = some e) (hc : closedE fr O e) : closedK L fr O (k + 1) := by
  obtain ⟨h1, h2⟩ := List.getElem?_eq_some_iff.1 he
  intro x hx
  rw [List.take_succ_eq_append_getElem h1, List.mem_append, List.mem_singleton] at hx
  rcases hx with hx | hx
  · exact h x hx
  · rw [hx, h2]
    exact hc
theorem reach_put {L : List Ed} {fr : Int} {O : List Int} {k : Nat} {f t : Int} (h : RcJ L fr O) (he : L[k]? = some ⟨f, t⟩) (hc : f = fr ∨ f ∈ O) : RcJ L fr (putI O t) := by
  refine ⟨putI_pw O t h.1, fun x hx => ?_⟩
  rcases (putI_mem O t x).1 hx with hx | rfl
  · exact h.2 x hx
  · have hm : x ∈ rowL (nxL L) f := (rowL_mem _ _ _).2 (List.mem_of_getElem? he)
    rcases hc with rfl | hc
    · exact .one hm
    · exact .more (h.2 f hc) hm
theorem put_new_len {L : List Int} {x : Int} (h : x ∉ L) : (putI L x).length = L.length + 1 := by
  unfold putI
  rw [if_neg]
  · have := kI_le L x
    simp only [List.length_append, List.length_take, List.length_drop, List.length_cons, List.length_nil]
    omega
  · intro e
    exact h (List.mem_of_getElem? e)
theorem rcJ_len {L : List Ed} {fr : Int} {O : List Int} (h : RcJ L fr O) : O.length ≤ L.length := by
  have h1 : O.Nodup := h.1.imp fun h => by omega
  have h2 := nodup_len O (L.map (·.tgt)) h1 fun x hx => by
    obtain ⟨y, hy⟩ := (h.2 x hx).last
    exact List.mem_map.2 ⟨⟨y, x⟩, (rowL_mem _ _ _).1 hy, rfl⟩
  rwa [List.length_map] at h2
theorem rcJ_end {L : List Ed} {fr : Int} {O : List Int} (h : RcJ L fr O) (hc : closedK L fr O L.length) : O = rcL L fr := by
  refine ltI_uniq _ _ h.1 (rcL_pw L fr) fun x => ?_
  rw [rcL_mem]
  refine ⟨h.2 x, fun hr => ?_⟩
  unfold closedK at hc
  rw [List.take_length] at hc
  induction hr with
  | one ht => exact hc _ ((rowL_mem _ _ _).1 ht) (.inl rfl)
  | more _ ht ih => exact hc _ ((rowL_mem _ _ _).1 ht) (.inr ih)
set_option maxHeartbeats 20000000 in
set_option maxRecDepth 100000 in
theorem reachR_any (v : Value) (L : List Ed) (fr : Int) (w : World) (hv : RL w v 2 L.length (L.flatMap Ed.cells)) (hl : L.length ≤ 1000) :
    Calls Tryz.prog 15 #[v, .int .i64 fr] w fun e w' => ∃ a c, e = .returned (.slice a (rcL L fr).length c) ∧ Sep w' [vec 3 1 (.slice a (rcL L fr).length c) (rcL L fr).length ((rcL L fr).map (Value.int .i64)), old w] := by
  have hv2 := Lib.hid hv
  obtain ⟨_, va, vp, rfl, _⟩ := hv
  obtain ⟨n0, hn0⟩ : ∃ n0, L.length = n0 := ⟨_, rfl⟩
  rw [hn0] at hv2 hl ⊢
  have hJl := Lib.hid (fun O (h : RcJ L fr O) => rcJ_len h)
  have hend := Lib.hid (fun O (h : RcJ L fr O) hc => rcJ_end h hc)
  simp only [hn0] at hJl hend
  replace hJl := Lib.hid hJl.out
  replace hend := Lib.hid hend.out
  replace hn0 := Lib.hid hn0
  have HIn := Lib.hid (fun u xs x w h1 h2 => inR_any u xs x w h1 h2)
  have HPut := Lib.hid (fun a n c L x w rs h1 h2 h3 h4 => putR_any a n c L x w rs h1 h2 h3 h4)
  have hV0 := Lib.hid ((Sep.start w).vec_nil 3 1)
  have hJ0 : RcJ L fr [] := ⟨List.Pairwise.nil, fun x hx => by simp at hx⟩
  replace hJ0 := Lib.hid hJ0
  go_enter Tryz.func15, Tryz.ntmps15
  go_wp2_with fail
  go_loopg [5, 6] (2 * n0 + 1) (fun gm s5 s6 W => ∃ (b : Bool) (O : List Int) (ao : Option Addr) (co n : Nat), gm = 2 * (n0 - n) + (if b then 1 else 0) ∧ s5 = .slice ao n co ∧ s6 = .bool b ∧ Hid (O.length = n) ∧ (n = 0 → ao = none ∧ co = 0) ∧ Hid (RcJ L fr O) ∧ Hid (b = false → closedK L fr O n0) ∧ Hid (Sep W [vec 3 1 (.slice ao n co) n (O.map (Value.int .i64)), old w]))
  case atStart => exact ⟨true, [], none, 0, 0, rfl, rfl, rfl, Lib.hid rfl, fun _ => ⟨rfl, rfl⟩, hJ0, Lib.hid (fun h => by cases h), hV0⟩
  case round =>
    clear hV0 hJ0
    obtain ⟨b0, O0, ao0, co0, no, hgm, rfl, rfl, hOn0, hnil0, hJ0, hC0, hV0⟩ := hrel
    have hno : no ≤ n0 := by rw [← hOn0.out]; exact hJl.out O0 hJ0.out
    cases b0 with
    | false =>
      have hfn := hend.out O0 hJ0.out (hC0.out rfl)
      subst hfn
      have hOn2 := hOn0.out
      subst hOn2
      go_wp2_with fail
      go_ret
      exact ⟨ao0, co0, rfl, hV0.out⟩
    | true =>
      rw [if_pos rfl] at hgm
      have hgmh := Lib.hid hgm
      clear hgm hC0
      go_wp2_with fail
      go_loopg [5, 6, 7] n0 (fun gm s5 s6 s7 W => ∃ (i : Nat) (b : Bool) (O : List Int) (ao : Option Addr) (co n : Nat), i ≤ n0 ∧ gm = n0 - i ∧ s5 = .slice ao n co ∧ s6 = .bool b ∧ s7 = .int .i64 i ∧ Hid (O.length = n) ∧ (n = 0 → ao = none ∧ co = 0) ∧ Hid (RcJ L fr O) ∧ Hid (b = true → no < n) ∧ Hid (b = false → O = O0 ∧ closedK L fr O i) ∧ Hid (Sep W [vec 3 1 (.slice ao n co) n (O.map (Value.int .i64)), old w]))
      case atStart => exact ⟨0, false, O0, ao0, co0, no, Nat.zero_le _, rfl, rfl, rfl, rfl, hOn0, hnil0, hJ0, Lib.hid (fun h => by cases h), Lib.hid (fun _ => ⟨rfl, fun e he => by simp at he⟩), hV0⟩
      case round =>
        clear hV0 hJ0 hnil0
        obtain ⟨i, b, O, ao, co, n, hi, hgm2, rfl, rfl, rfl, hOn, hnil, hJ, hUp, hNo, hV⟩ := hrel
        have hnn : n ≤ n0 := by rw [← hOn.out]; exact hJl.out O hJ.out
        by_cases hlt : i < n0
        · obtain ⟨eb, eo, rfl, heb, zz⟩ := cells_ed hv2.out hn0.out (by omega)
          have hil : i < L.length := by rw [hn0.out]; exact hlt
          have c0 : wr.cell? ⟨eb, eo + i * 2, none⟩ = some (.int .i64 L[i].from_) := (hV.out.tail.gold.cell (p := ⟨eb, eo + i * 2, none⟩) heb).trans (zz i _ (List.getElem?_eq_getElem hil) 0 _ rfl)
          have c1 : wr.cell? ⟨eb, eo + i * 2 + 1, none⟩ = some (.int .i64 L[i].tgt) := (hV.out.tail.gold.cell (p := ⟨eb, eo + i * 2 + 1, none⟩) heb).trans (zz i _ (List.getElem?_eq_getElem hil) 1 _ rfl)
          have hx := Lib.hid (List.getElem?_eq_getElem hil)
          clear zz
          generalize L[i] = ee at *
          obtain ⟨f, t⟩ := ee
          simp only at c0 c1
          have hUp2 : Hid (no ≤ n) := Lib.hid (by
            cases b with
            | true => exact Nat.le_of_lt (hUp.out rfl)
            | false => rw [← hOn.out, (hNo.out rfl).1, hOn0.out]; exact Nat.le_refl _)
          have i1 : (0 : Int) ≤ (i : Int) := by omega
          have i2 : (i : Int) < (n0 : Int) := by omega
          have hms := Lib.hid (show n0 - (i + 1) < n0 - i by omega)
          by_cases h1 : f = fr
          · have e1 : (f == fr) = true := by simpa using h1
            by_cases hit : t ∈ O
            · have d1 : decide (t ∈ O) = true := decide_eq_true hit
              have h1h := Lib.hid h1
              clear h1
              go_wp2_with fail
              refine (HIn.out _ _ _ _ (hV.out.vec_ri) (by rw [hOn.out]; omega)).mono ?_
              rintro e wq ⟨rfl, rfl⟩
              rw [d1]
              go_wp2_with fail
              go_roundg (n0 - (i + 1))
              case measure => first | exact hms.out | (rw [hgm2]; exact hms.out)
              case rel => exact ⟨i + 1, b, O, ao, co, n, by omega, rfl, rfl, rfl, by go_num, hOn, hnil, hJ, hUp, Lib.hid (by intro h; refine (hNo.out h).imp id fun h2 => closed_step h2 hx.out ?_; exact fun _ => hit), hV⟩
            · have d1 : decide (t ∈ O) = false := decide_eq_false hit
              have h1h := Lib.hid h1
              clear h1
              go_wp2_with fail
              refine (HIn.out _ _ _ _ (hV.out.vec_ri) (by rw [hOn.out]; omega)).mono ?_
              rintro e wq ⟨rfl, rfl⟩
              rw [d1]
              have hJ2 := Lib.hid (reach_put hJ.out hx.out (.inl h1h.out))
              go_wp2_with fail
              refine (HPut.out ao n co O t _ _ hV.out hOn.out (by omega) hnil).mono ?_
              rintro e w9 ⟨pa, pc, rfl, hV2, hpos⟩
              replace hV2 := Lib.hid hV2
              have hlt4 := Lib.hid (put_new_len (L := O) (x := t) hit)
              generalize hG : putI O t = P2 at *
              obtain ⟨np2, hnp2⟩ : ∃ np2, P2.length = np2 := ⟨_, rfl⟩
              rw [hnp2] at hV2 hpos hlt4
              simp only [hnp2]
              go_wp2_with fail
              go_roundg (n0 - (i + 1))
              case measure => first | exact hms.out | (rw [hgm2]; exact hms.out)
              case rel => exact ⟨i + 1, true, P2, pa, pc, np2, by omega, rfl, rfl, rfl, by go_num, Lib.hid hnp2, fun h => absurd h (by omega), hJ2, Lib.hid (fun _ => by have h1 := hUp2.out; have h2 := hlt4.out; have h3 := hOn.out; omega), Lib.hid (fun h => by cases h), hV2⟩
          · have e1 : (f == fr) = false := by simpa using h1
            by_cases hif : f ∈ O
            · have d0 : decide (f ∈ O) = true := decide_eq_true hif
              by_cases hit : t ∈ O
              · have d1 : decide (t ∈ O) = true := decide_eq_true hit
                go_wp2_with fail
                refine (HIn.out _ _ _ _ (hV.out.vec_ri) (by rw [hOn.out]; omega)).mono ?_
                rintro e wq ⟨rfl, rfl⟩
                rw [d0]
                go_wp2_with fail
                refine (HIn.out _ _ _ _ (hV.out.vec_ri) (by rw [hOn.out]; omega)).mono ?_
                rintro e wq ⟨rfl, rfl⟩
                rw [d1]
                go_wp2_with fail
                go_roundg (n0 - (i + 1))
                case measure => first | exact hms.out | (rw [hgm2]; exact hms.out)
                case rel => exact ⟨i + 1, b, O, ao, co, n, by omega, rfl, rfl, rfl, by go_num, hOn, hnil, hJ, hUp, Lib.hid (by intro h; refine (hNo.out h).imp id fun h2 => closed_step h2 hx.out ?_; exact fun _ => hit), hV⟩
              · have d1 : decide (t ∈ O) = false := decide_eq_false hit
                go_wp2_with fail
                refine (HIn.out _ _ _ _ (hV.out.vec_ri) (by rw [hOn.out]; omega)).mono ?_
                rintro e wq ⟨rfl, rfl⟩
                rw [d0]
                go_wp2_with fail
                refine (HIn.out _ _ _ _ (hV.out.vec_ri) (by rw [hOn.out]; omega)).mono ?_
                rintro e wq ⟨rfl, rfl⟩
                rw [d1]
                have hJ2 := Lib.hid (reach_put hJ.out hx.out (.inr hif))
                go_wp2_with fail
                refine (HPut.out ao n co O t _ _ hV.out hOn.out (by omega) hnil).mono ?_
                rintro e w9 ⟨pa, pc, rfl, hV2, hpos⟩
                replace hV2 := Lib.hid hV2
                have hlt4 := Lib.hid (put_new_len (L := O) (x := t) hit)
                generalize hG : putI O t = P2 at *
                obtain ⟨np2, hnp2⟩ : ∃ np2, P2.length = np2 := ⟨_, rfl⟩
                rw [hnp2] at hV2 hpos hlt4
                simp only [hnp2]
                go_wp2_with fail
                go_roundg (n0 - (i + 1))
                case measure => first | exact hms.out | (rw [hgm2]; exact hms.out)
                case rel => exact ⟨i + 1, true, P2, pa, pc, np2, by omega, rfl, rfl, rfl, by go_num, Lib.hid hnp2, fun h => absurd h (by omega), hJ2, Lib.hid (fun _ => by have h1 := hUp2.out; have h2 := hlt4.out; have h3 := hOn.out; omega), Lib.hid (fun h => by cases h), hV2⟩
            · have d0 : decide (f ∈ O) = false := decide_eq_false hif
              go_wp2_with fail
              refine (HIn.out _ _ _ _ (hV.out.vec_ri) (by rw [hOn.out]; omega)).mono ?_
              rintro e wq ⟨rfl, rfl⟩
              rw [d0]
              go_wp2_with fail
              go_roundg (n0 - (i + 1))
              case measure => first | exact hms.out | (rw [hgm2]; exact hms.out)
              case rel => exact ⟨i + 1, b, O, ao, co, n, by omega, rfl, rfl, rfl, by go_num, hOn, hnil, hJ, hUp, Lib.hid (by intro h; refine (hNo.out h).imp id fun h2 => closed_step h2 hx.out ?_; exact fun h3 => absurd h3 (fun h4 => h4.elim h1 hif)), hV⟩
        · obtain rfl : i = n0 := by omega
          cases b with
          | true =>
            have hup := hUp.out rfl
            go_wp2_with fail
            go_roundg (2 * (i - n) + 1)
            case measure => rw [hgmh.out]; omega
            case rel => exact ⟨true, O, ao, co, n, rfl, rfl, rfl, hOn, hnil, hJ, Lib.hid (fun h => by cases h), hV⟩
          | false =>
            obtain ⟨h1, h2⟩ := hNo.out rfl
            have h3 : n = no := by rw [← hOn.out, h1, hOn0.out]
            have h2h := Lib.hid h2
            have hms2 := Lib.hid (show 2 * (i - n) + 0 < 2 * (i - no) + 1 by omega)
            clear h1 h2 h3
            go_wp2_with fail
            go_roundg (2 * (i - n) + 0)
            case measure => rw [hgmh.out]; exact hms2.out
            case rel => exact ⟨false, O, ao, co, n, rfl, rfl, rfl, hOn, hnil, hJ, Lib.hid (fun _ => h2h.out), hV⟩
end Go.Proofs.YtcnkmhfcgkbhbaaGreat
namespace Go.Proofs.YtcnkmhfcgkbhbaaGreat
open Go.RowKit
set_option maxHeartbeats 2000000 in
theorem sameE_true (u v : Value) (L : List Ed) (w : World) (hn : L.length ≤ 100000) (hu : RL w u 2 L.length (L.flatMap Ed.cells)) (hv : RL w v 2 L.length (L.flatMap Ed.cells)) :
   Calls Tryz.prog 11 #[u, v] w fun e w' => e = .returned (.bool true) ∧ ∃ m, w' = w.drewN m := by
  have HU := Lib.hid hu
  have HV := Lib.hid hv
  obtain ⟨_, a, c, rfl, _⟩ := hu
  obtain ⟨_, a', c', rfl, _⟩ := hv
  obtain ⟨n, hl⟩ : ∃ n, L.length = n := ⟨_, rfl⟩
  rw [hl] at HU HV hn ⊢
  replace hl := Lib.hid hl
  go_enter Tryz.func11, Tryz.ntmps11
  go_wp2
  go_loopw [5] (fun i w1 => ∃ k : Nat, k ≤ n ∧ i = .int .i64 k ∧ ∃ m, w1 = w.drewN m) (fun i _ => n - (intOf i).toNat)
  case atStart => exact ⟨0, Nat.zero_le _, rfl, 0, rfl⟩
  case round =>
    obtain ⟨k, hk, rfl, m, rfl⟩ := hrel
    by_cases hlt : k < n
    · obtain ⟨b, off, rfl, _, hc⟩ := cells_ed HU.out hl.out (by omega)
      obtain ⟨b', off', rfl, _, hc'⟩ := cells_ed HV.out hl.out (by omega)
      have hkl : k < L.length := by rw [hl.out]; exact hlt
      have x0 := hc k _ (List.getElem?_eq_getElem hkl) 0 _ rfl
      have x1 := hc k _ (List.getElem?_eq_getElem hkl) 1 _ rfl
      have y0 := hc' k _ (List.getElem?_eq_getElem hkl) 0 _ rfl
      have y1 := hc' k _ (List.getElem?_eq_getElem hkl) 1 _ rfl
      rw [Nat.add_zero] at x0 y0
      rw [← Nat.add_assoc] at x1 y1
      have hq := fun W => run_neq_ed L[k].from_ L[k].from_ L[k].tgt L[k].tgt W
      rw [eqB_ed_iff, decide_eq_true (And.intro rfl rfl)] at hq
      clear hc hc' HU HV
      generalize L[k] = e at *
      obtain ⟨f, t⟩ := e
      simp only at x0 x1 y0 y1 hq
      have i1 : (0 : Int) ≤ (k : Int) := by omega
      have i2 : (k : Int) < (n : Int) := by omega
      go_wp2_with fail
      go_quiet (fail)
      go_wp2_with fail
      go_roundw
      case rel => exact ⟨k+1, by omega, by go_num, _, rfl⟩
      case measure => simp [intOf]; omega
    · go_wp2
      go_ret
      exact ⟨rfl, _, rfl⟩
end Go.Proofs.YtcnkmhfcgkbhbaaGreat
namespace Go.Proofs.YtcnkmhfcgkbhbaaGreat
open Go.RowKit
theorem nx_sd (L : List Ed) : nxL (sdE L) = nxL L := by
  unfold nxL
  rw [sdE_self (sdE L) (sdE_pw L)]
theorem rows_pw (L : List Ed) (a : Int) : (rowL (nxL L) a).Pairwise (· < ·) := by
  rw [rowL_nx, List.pairwise_map]
  refine List.Pairwise.imp_of_mem (fun {x y} hx hy h => ?_) ((sdE_pw L).filter _)
  rw [List.mem_filter] at hx hy
  have h1 := hx.2
  have h2 := hy.2
  simp only [beq_iff_eq] at h1 h2
  simp only [ltE] at h
  omega
theorem rd_wk {N : Rw} {a b : Int} (h : Rd N a b) : ∃ k, Wk N k a b := by
  induction h with
  | one ht => exact ⟨1, .one ht⟩
  | more _ ht ih =>
    obtain ⟨k, hk⟩ := ih
    exact ⟨k + 1, hk.snoc ht⟩
/-- What far tells of one that reaches itself, and of one that does not. -/
theorem far_self {L : List Ed} {fr r : Int} (h : FarIs (sdE L) fr fr r) : (r = -1 ∧ ¬ Rd (nxL L) fr fr) ∨ (r = ((rsC (nxL L) fr).1.length : Int) ∧ Rd (nxL L) fr fr) := by
  unfold FarIs at h
  rw [nx_sd] at h
  rcases h with ⟨rfl, h1⟩ | ⟨n, rfl, h1, h2⟩
  · refine .inl ⟨rfl, fun hr => ?_⟩
    obtain ⟨k, hk⟩ := rd_wk hr
    exact h1 k hk
  · have hr := h1.rd
    refine .inr ⟨?_, hr⟩
    have h3 := shortest (rows_pw L) hr h1
    have h4 := back_ hr 0 (rs_facts _ _ hr).1
    rw [(rs_facts _ _ hr).2.1, Nat.sub_zero] at h4
    have h5 : ¬ (rsC (nxL L) fr).1.length < n := fun h => h2 _ h h4
    omega
/-- The next one of the cycle stands at its edge alone. -/
theorem far_next {L : List Ed} {fr : Int} (hr : Rd (nxL L) fr fr) (j : Nat) (hj : j + 1 < (rsC (nxL L) fr).1.length) (k : Nat) (hk : k < (sdE L).length) (hf : (sdE L)[k].from_ = (rsC (nxL L) fr).1.getD j 0)
    (hfar : FarIs (sdE L) (sdE L)[k].tgt fr (((rsC (nxL L) fr).1.length - 1 - j : Nat) : Int)) (hno : ∀ i (hi : i < k) r, ((sdE L)[i]'(by omega)).from_ = (rsC (nxL L) fr).1.getD j 0 → FarIs (sdE L) ((sdE L)[i]'(by omega)).tgt fr r → r ≠ (((rsC (nxL L) fr).1.length - 1 - j : Nat) : Int)) : (sdE L)[k].tgt = (rsC (nxL L) fr).1.getD (j + 1) 0 := by
  have hs := rows_pw L
  have hmem : (sdE L)[k] ∈ L := (sdE_mem L _).1 (List.getElem_mem hk)
  have ht : (sdE L)[k].tgt ∈ rowL (nxL L) ((rsC (nxL L) fr).1.getD j 0) := (rowL_mem _ _ _).2 (by rw [← hf]; exact hmem)
  unfold FarIs at hfar
  rw [nx_sd] at hfar
  have hw : Wk (nxL L) ((rsC (nxL L) fr).1.length - 1 - j) (sdE L)[k].tgt fr := by
    rcases hfar with ⟨h1, _⟩ | ⟨n, h1, h2, _⟩
    · omega
    · rw [show (rsC (nxL L) fr).1.length - 1 - j = n by omega]
      exact h2
  have hle := least hs hr j hj ht hw
  refine Int.le_antisymm (Int.not_lt.1 fun hlt => ?_) hle
  have hpar := wyN_par (nxL L) fr _ ((rs_facts _ _ hr).2.2.1 j hj)
  simp only at hpar
  rw [rowL_mem, ← sdE_mem] at hpar
  obtain ⟨i, hi, he⟩ := List.mem_iff_getElem.1 hpar
  have hik : i < k := by
    refine Nat.lt_of_not_le fun h => ?_
    rcases Nat.lt_or_eq_of_le h with h | h
    · have := List.pairwise_iff_getElem.1 (sdE_pw L) k i hk hi h
      rw [he] at this
      simp only [ltE] at this
      omega
    · subst h
      rw [he] at hlt
      simp only at hlt
      omega
  refine hno i hik _ (by rw [he]) ?_ rfl
  unfold FarIs
  rw [nx_sd, he]
  refine .inr ⟨_, rfl, ?_, fun q hq hwq => ?_⟩
  · have := back_ hr (j + 1) hj
    rwa [show (rsC (nxL L) fr).1.length - (j + 1) = (rsC (nxL L) fr).1.length - 1 - j by omega] at this
  · have := dist_ hs hr (j + 1) hj hwq
    omega
/-- And there is such an edge. -/
theorem far_has {L : List Ed} {fr : Int} (hr : Rd (nxL L) fr fr) (j : Nat) (hj : j + 1 < (rsC (nxL L) fr).1.length) : ∃ k, ∃ hk : k < (sdE L).length, (sdE L)[k].from_ = (rsC (nxL L) fr).1.getD j 0 ∧ FarIs (sdE L) (sdE L)[k].tgt fr (((rsC (nxL L) fr).1.length - 1 - j : Nat) : Int) := by
  have hpar := wyN_par (nxL L) fr _ ((rs_facts _ _ hr).2.2.1 j hj)
  simp only at hpar
  rw [rowL_mem, ← sdE_mem] at hpar
  obtain ⟨i, hi, he⟩ := List.mem_iff_getElem.1 hpar
  refine ⟨i, hi, by rw [he], ?_⟩
  unfold FarIs
  rw [nx_sd, he]
  refine .inr ⟨_, rfl, ?_, fun q hq hwq => ?_⟩
  · have := back_ hr (j + 1) hj
    rwa [show (rsC (nxL L) fr).1.length - (j + 1) = (rsC (nxL L) fr).1.length - 1 - j by omega] at this
  · have := dist_ (rows_pw L) hr (j + 1) hj hwq
    omega
end Go.Proofs.YtcnkmhfcgkbhbaaGreat
namespace Go.Proofs.YtcnkmhfcgkbhbaaGreat
open Go.RowKit
theorem rsC_len (L : List Ed) (fr : Int) : (rsC (nxL L) fr).1.length ≤ L.length + 1 := by
  unfold rsC
  simp only [List.length_reverse, List.length_append, List.length_cons, List.length_nil]
  have h1 := wyN_len L fr
  have h2 := pathB_len (wyN (nxL L) fr) fr (wyN (nxL L) fr).length (stepB (wyN (nxL L) fr) fr)
  omega
set_option maxHeartbeats 16000000 in
set_option maxRecDepth 100000 in
theorem cycleR_any (v : Value) (L : List Ed) (w : World) (hv : RL w v 2 L.length (L.flatMap Ed.cells)) (hl : L.length ≤ 900) :
    Calls Tryz.prog 7 #[v] w fun e w' => ∃ (a : Option Addr) (c : Nat), e = .returned (.tuple #[.slice a (cyc L).1.length c, .bool (cyc L).2]) ∧ Sep w' [vec 3 1 (.slice a (cyc L).1.length c) (cyc L).1.length ((cyc L).1.map (Value.int .i64)), old w] := by
  have HS := Lib.hid (sortedR_any v L w hv (by omega))
  have hsl := sdE_len L
  obtain ⟨res, hres⟩ : ∃ res, Hid (cyc L = res) := ⟨_, rfl⟩
  have hres0 := Lib.hid (show cycG (nxL L) (sdE L) = res from hres.out)
  rw [hres.out]
  have hfs := Lib.hid (fun fr r (h : FarIs (sdE L) fr fr r) => far_self h)
  have hcl := Lib.hid (fun fr => rsC_len L fr)
  obtain ⟨i0, hi0, hz0, hz1, hz2⟩ := info_parts info_int
  have h1c : Hid (∀ x, ∀ u ∈ ([.int .i64 x] : List Value), u.oneCell' = true) := Lib.hid (by simp [Value.oneCell'])
  obtain ⟨n0, hn0⟩ : ∃ n0, Hid ((sdE L).length = n0) := ⟨_, rfl⟩
  rw [hn0.out] at HS hsl
  have HF := Lib.hid (fun a c fr tgt W (h : RL W (.slice a n0 c) 2 n0 ((sdE L).flatMap Ed.cells)) => farR_any (.slice a n0 c) (sdE L) fr tgt W (by rw [hn0.out]; exact h) (by rw [hn0.out]; omega))
  clear hv hres
  go_enter Tryz.func7, Tryz.ntmps7
  go_wp2_with fail
  refine HS.out.mono ?_
  rintro e w1 ⟨sa, sc, rfl, q⟩
  have hV := Lib.hid q
  clear q HS
  go_wp2_with fail
  go_loopg [4] n0 (fun gm s4 W => ∃ i : Nat, i ≤ n0 ∧ gm = n0 - i ∧ s4 = .int .i64 i ∧ Hid (res = cycG (nxL L) ((sdE L).drop i)) ∧ Hid (Sep W [vec 30 2 (.slice sa n0 sc) n0 ((sdE L).flatMap Ed.cells), old w]))
  case atStart => exact ⟨0, Nat.zero_le _, rfl, rfl, Lib.hid hres0.out.symm, hV⟩
  case round =>
    clear hV hres0
    obtain ⟨i, hi, hgm, rfl, hE, hV⟩ := hrel
    by_cases hlt : i < n0
    · obtain ⟨g, hg, _, _, zz, _⟩ := hV.out.vec_at ed_len hn0.out hlt
      subst hg
      have hil : i < (sdE L).length := by rw [hn0.out]; exact hlt
      have hge : (sdE L).getD i default = (sdE L)[i] := by simp [List.getD, hil]
      rw [hge] at zz
      have hdr := Lib.hid (List.drop_eq_getElem_cons hil)
      rw [hdr.out, cycG_cons] at hE
      have z0 := zz 0 _ rfl
      rw [Nat.add_zero] at z0
      clear zz hge hdr
      generalize hfr : (sdE L)[i].from_ = fr at *
      clear hfr
      have i1 : (0 : Int) ≤ (i : Int) := by omega
      have i2 : (i : Int) < (n0 : Int) := by omega
      have HF1 := Lib.hid (HF.out _ _ fr fr wr hV.out.vec_rl)
      go_wp2_with fail
      refine HF1.out.mono ?_
      rintro e w2 ⟨r, rfl, hr, q⟩
      replace hV := Lib.hid (hV.out.below q)
      clear q HF1 z0
      rcases hfs.out fr r hr with ⟨rfl, hnr⟩ | ⟨rfl, hrd⟩
      · have hh : hasL (wyN (nxL L) fr) fr = false := by
          cases hb : hasL (wyN (nxL L) fr) fr with
          | false => rfl
          | true => exact absurd ((hasW_iff _ _ _).1 hb) hnr
        rw [hh, if_neg (by simp)] at hE
        clear hnr hr hh
        go_wp2_with fail
        go_roundg (n0 - (i + 1))
        case measure => omega
        case rel => exact ⟨i + 1, by omega, rfl, by go_num, hE, hV⟩
      · have hh : hasL (wyN (nxL L) fr) fr = true := (hasW_iff _ _ _).2 hrd
        rw [hh, if_pos rfl] at hE
        have hnx := Lib.hid (fun j hj k hk hf hfar hno => far_next hrd j hj k hk hf hfar hno)
        have hhas := Lib.hid (fun j hj => far_has hrd j hj)
        have hc0 := Lib.hid (rs_facts _ _ hrd).2.1
        have hcp := (rs_facts _ _ hrd).1
        have hcm := hcl.out fr
        have hres2 := Lib.hid (show res = ((rsC (nxL L) fr).1, true) from hE.out)
        clear hrd hr hh hE
        generalize (rsC (nxL L) fr).1 = c at *
        obtain ⟨m, hm⟩ : ∃ m, Hid (c.length = m) := ⟨_, rfl⟩
        rw [hm.out] at hcp hcm
        simp only [hm.out] at hnx hhas
        replace hnx := Lib.hid hnx.out
        replace hhas := Lib.hid hhas.out
        have hct := Lib.hid (show [fr] = c.take 1 by
          cases c with
          | nil => have := hm.out; simp at this; omega
          | cons x xs =>
            have := hc0.out
            simp at this
            simp [this])
        rw [hm.out]
        have m1 : ¬ (m : Int) < 0 := by omega
        have hV2 := Lib.hid ((hV.out.alloc #[.int .i64 fr] 3).blk_vec (size := 1) (n := 1) (c := 1) (xs := [fr].map (Value.int .i64)) rfl (Nat.le_refl _) (by decide) rfl rfl)
        rw [hct.out] at hV2
        clear hV
        go_wp2_with fail
        go_loopg [6, 7] m (fun gm s6 s7 W => ∃ (j nn : Nat) (ao : Option Addr) (co : Nat), Hid (nn + j = m) ∧ 0 < nn ∧ gm = nn ∧ s6 = .int .i64 nn ∧ s7 = .slice ao (j + 1) co ∧ Hid (Sep W [vec 3 1 (.slice ao (j + 1) co) (j + 1) ((c.take (j + 1)).map (Value.int .i64)), vec 30 2 (.slice (some ⟨g, 0, none⟩) n0 sc) n0 ((sdE L).flatMap Ed.cells), old w]))
        case atStart => exact ⟨0, m, _, 1, Lib.hid rfl, hcp, rfl, rfl, rfl, hV2⟩
        case round =>
          clear hV2
          obtain ⟨j, nn, ao, co, hjm, hnn, hg2, rfl, rfl, hV⟩ := hrel
          have hnm : nn ≤ 1000 := by have := hjm.out; omega
          by_cases hn1 : 1 < nn
          · obtain ⟨n2, rfl⟩ : ∃ n2, nn = n2 + 1 := ⟨nn - 1, by omega⟩
            have n1 : (1 : Int) < ((n2 + 1 : Nat) : Int) := by omega
            have n1b : 1 < n2 + 1 := hn1
            have n2p : 0 < n2 := by omega
            have hjm2 := hjm.out
            have hjc : j < c.length := by rw [hm.out]; omega
            have hj1c : j + 1 < c.length := by rw [hm.out]; omega
            have hj1 : j + 1 < m := by omega
            have hval : ((m - 1 - j : Nat) : Int) = (n2 : Int) := by omega
            have hjn : j ≤ 1000 := by omega
            obtain ⟨go, cap, cur, hgv, _⟩ := hV.out.gvec.2.resolve_left (by rintro ⟨_, h⟩; omega)
            injection hgv with e1 _ e3
            subst e1 e3
            have hx := Lib.hid (show ((c.take (j + 1)).map (Value.int .i64))[j]? = some (.int .i64 (c.getD j 0)) by
              rw [List.getElem?_map, List.getElem?_take, if_pos (by omega), List.getElem?_eq_getElem hjc]
              simp [List.getD, hjc])
            have zl := (hV.out.vec_cell hx.out).1
            have hct2 := Lib.hid (show c.take (j + 1 + 1) = c.take (j + 1) ++ [c.getD (j + 1) 0] by
              rw [List.take_succ_eq_append_getElem hj1c]
              simp [List.getD, hj1c])
            have hnx2 := Lib.hid (fun k hk hf hfar hno => hnx.out j hj1 k hk hf hfar hno)
            have hhas2 := Lib.hid (hhas.out j hj1)
            rw [hval] at hnx2 hhas2
            replace hnx2 := Lib.hid hnx2.out
            replace hhas2 := Lib.hid hhas2.out
            generalize c.getD j 0 = cj at *
            clear hjm2 hjc hj1c hj1 hval hx
            go_wp2_with fail
            go_loopg [7, 9] n0 (fun gm s7 s9 W => ∃ k : Nat, k ≤ n0 ∧ gm = n0 - k ∧ s7 = .slice (some ⟨go, 0, none⟩) (j + 1) co ∧ s9 = .int .i64 k ∧ Hid (∀ i (hi : i < k) (hi2 : i < (sdE L).length) r, ((sdE L)[i]).from_ = cj → FarIs (sdE L) ((sdE L)[i]).tgt fr r → r ≠ (n2 : Int)) ∧ Hid (Sep W [vec 3 1 (.slice (some ⟨go, 0, none⟩) (j + 1) co) (j + 1) ((c.take (j + 1)).map (Value.int .i64)), vec 30 2 (.slice (some ⟨g, 0, none⟩) n0 sc) n0 ((sdE L).flatMap Ed.cells), old w]))
            case atStart => exact ⟨0, Nat.zero_le _, rfl, rfl, rfl, Lib.hid (fun i hi => by omega), hV⟩
            case round =>
              clear hV zl
              obtain ⟨k, hk, hg3, rfl, rfl, hno, hV⟩ := hrel
              by_cases hkn : k < n0
              · obtain ⟨g', hg', hgb, _, zz, _⟩ := hV.out.to1.vec_at ed_len hn0.out hkn
                injection hg' with hg'
                injection hg' with hg'
                subst hg'
                have hkl : k < (sdE L).length := by rw [hn0.out]; exact hkn
                have hge : (sdE L).getD k default = (sdE L)[k] := by simp [List.getD, hkl]
                rw [hge] at zz
                have y0 := zz 0 _ rfl
                have y1 := zz 1 _ rfl
                rw [Nat.add_zero] at y0
                have hnk := Lib.hid (fun hf hfar => hnx2.out k hkl hf hfar (fun i hi r h1 h2 => hno.out i hi (by omega) r h1 h2))
                have hno2 := Lib.hid (fun (hne : ∀ r, (sdE L)[k].from_ = cj → FarIs (sdE L) (sdE L)[k].tgt fr r → r ≠ (n2 : Int)) i (hi : i < k + 1) (hi2 : i < (sdE L).length) r (h1 : ((sdE L)[i]).from_ = cj) (h2 : FarIs (sdE L) ((sdE L)[i]).tgt fr r) => show r ≠ (n2 : Int) by
                  by_cases hik : i < k
                  · exact hno.out i hik hi2 r h1 h2
                  · obtain rfl : i = k := by omega
                    exact hne r h1 h2)
                clear zz hge
                obtain ⟨f, hf⟩ : ∃ f, (sdE L)[k].from_ = f := ⟨_, rfl⟩
                obtain ⟨t, ht⟩ : ∃ t, (sdE L)[k].tgt = t := ⟨_, rfl⟩
                rw [hf] at y0
                rw [ht] at y1
                simp only [hf, ht] at hnk hno2
                replace hnk := Lib.hid hnk.out
                replace hno2 := Lib.hid hno2.out
                clear hf ht hkl
                have k1 : (0 : Int) ≤ (k : Int) := by omega
                have k2 : (k : Int) < (n0 : Int) := by omega
                by_cases hfc : f = cj
                · subst hfc
                  have HF2 := Lib.hid (HF.out _ _ t fr wr hV.out.to1.vec_rl)
                  go_wp2_with fail
                  refine HF2.out.mono ?_
                  rintro e w4 ⟨r2, rfl, hr2, q⟩
                  replace hV := Lib.hid (hV.out.below q)
                  replace y1 := (q.cell (p := ⟨g, k * 2 + 1, none⟩) hgb).trans y1
                  clear q HF2
                  by_cases hrn : r2 = (n2 : Int)
                  · subst hrn
                    have htc := Lib.hid (hnk.out (by first | rfl | trivial) hr2)
                    clear hr2 hnk hno2
                    go_wp2_with (at_builtin; (refine wpList_append_sep (hV.out.allocG _) rfl _ _ 25 rfl i0 _ 8 Tryz.underlying25 hi0 hz0 hz1 hz2 rfl (by decide) rfl 1 [.int .i64 t] (SrcA.one _ _ _ _) (h1c.out _) (by simp only [maxLen]; omega) (by omega) ?_; intro oa' oc' w5 q2; replace q2 := Lib.hid q2))
                    go_roundg n2
                    case measure => omega
                    case rel => exact ⟨j + 1, n2, oa', oc', Lib.hid (by have := hjm.out; omega), n2p, rfl, by go_num, rfl, Lib.hid (by rw [hct2.out, ← htc.out, List.map_append]; exact q2.out)⟩
                  · have e2 : (r2 == (n2 : Int)) = false := by simp [hrn]
                    have hno3 := Lib.hid (hno2.out (fun r _ h => by rw [farIs_uniq h hr2]; exact hrn))
                    clear hr2 hno2 hnk
                    go_wp2_with fail
                    go_roundg (n0 - (k + 1))
                    case measure => omega
                    case rel => exact ⟨k + 1, by omega, rfl, rfl, by go_num, hno3, hV⟩
                · have e1 : (f == cj) = false := by simp [hfc]
                  have hno3 := Lib.hid (hno2.out (fun r h _ => absurd h hfc))
                  go_wp2_with fail
                  go_roundg (n0 - (k + 1))
                  case measure => omega
                  case rel => exact ⟨k + 1, by omega, rfl, rfl, by go_num, hno3, hV⟩
              · exfalso
                obtain ⟨k', hk', h1, h2⟩ := hhas2.out
                exact hno.out k' (by rw [hn0.out] at hk'; omega) hk' _ h1 h2 rfl
          · have n1 : ¬ (1 : Int) < (nn : Int) := by omega
            have hjm2 := hjm.out
            obtain rfl : j + 1 = m := by omega
            have hcf : c.take (j + 1) = c := by rw [← hm.out, List.take_length]
            rw [hcf] at hV
            have hm2 := hm.out
            have hr3 := hres2.out
            subst hr3
            go_wp2_with fail
            refine bodyPost_ret (v := .tuple #[.slice ao (j + 1) co, .bool true]) (by simp [results, Tryz.results7, go_sem, *]) rfl ⟨ao, co, by simp [hm2], ?_⟩
            have h := hV.out.drop1
            simpa [hm2] using h
    · have hin : i = n0 := by omega
      rw [show (sdE L).drop i = [] by rw [hin, ← hn0.out, List.drop_length]] at hE
      have i2 : ¬ (i : Int) < (n0 : Int) := by omega
      have hE2 := hE.out
      have hE3 : res = ([], false) := hE2
      clear hE hE2
      subst hE3
      go_wp2_with fail
      refine bodyPost_ret (v := .tuple #[.slice none 0 0, .bool false]) (by simp [results, Tryz.results7, go_sem, *]) rfl ⟨none, 0, rfl, hV.out.tail.vec_nil 3 1⟩
end Go.Proofs.YtcnkmhfcgkbhbaaGreat
