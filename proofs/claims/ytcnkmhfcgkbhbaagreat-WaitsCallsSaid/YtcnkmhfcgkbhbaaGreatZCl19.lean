/-
  Contracts and plain laws that the walk leans on, part 19. No condition.
-/
import Derived.Test.YtcnkmhfcgkbhbaaGreatZCl18
namespace Go.Proofs.YtcnkmhfcgkbhbaaGreat
open Go.RowKit
set_option maxHeartbeats 4000000 in
set_option maxRecDepth 100000 in
theorem cycle_any (v : Value) (L : List Ed) (w : World) (hv : RL w v 2 L.length (L.flatMap Ed.cells)) (hl : L.length ≤ 1000) :
    Calls Tryz.prog 5 #[v] w fun e w' => ∃ (a : Option Addr) (c : Nat), e = .returned (.tuple #[.slice a (cyc L).1.length c, .bool (cyc L).2]) ∧ Sep w' [vec 3 1 (.slice a (cyc L).1.length c) (cyc L).1.length ((cyc L).1.map (Value.int .i64)), old w] := by
  unfold cyc
  have HN := Lib.hid (nexts_any v L w hv hl)
  have htg := tgts_nx L
  have hwl := Lib.hid (wyN_len L)
  go_enter Tryz.func5, Tryz.ntmps5
  go_wp2_with fail
  refine HN.out.mono ?_
  rintro e w1 ⟨b, es, R, rfl, hR, hN, hV⟩
  have HS := Lib.hid (sorted_any v L w1 (hv.below hV.tail.tail.gold) (by omega))
  clear HN
  go_wp2_with fail
  refine HS.out.mono ?_
  rintro e w2 ⟨a, c, rfl, q⟩
  have hV2 := Lib.hid (q.graft hV)
  have hsl := sdE_len L
  clear HS q hV hv
  have hfin : ∃ r, Hid (cycG (nxL L) (sdE L) = r) := ⟨_, rfl⟩
  obtain ⟨res, hres⟩ := hfin
  have hres2 := hres
  generalize sdE L = S at hsl hV2 hres2 ⊢
  obtain ⟨n, hn⟩ : ∃ n, Hid (S.length = n) := ⟨_, rfl⟩
  rw [hn.out] at hsl hV2 ⊢
  have hW := Lib.hid (fun fr W rs' h => ways_any b es R fr W rs' h hN (by rw [hR]; omega))
  simp only [hR] at hW
  generalize nxL L = N at hW hres2 hwl
  replace hW := Lib.hid hW.out
  clear hN
  replace hwl := Lib.hid (fun fr => Nat.le_trans (hwl.out fr) hl)
  obtain ⟨i0, hi0, hz0, hz1, hz2⟩ := info_parts info_int
  replace hV2 := Lib.hid hV2
  go_wp2_with fail
  go_loopg [18] n (fun gm s18 W => ∃ k : Nat, k ≤ n ∧ gm = n - k ∧ s18 = .int .i64 k ∧ Hid (res = cycG N (S.drop k)) ∧ Hid (Sep W [vec 30 2 (.slice a n c) n (S.flatMap Ed.cells), mapr ekI (id : Value → Value) b es, rowsR R, old w]))
  case atStart => exact ⟨0, Nat.zero_le _, rfl, rfl, Lib.hid hres2.out.symm, hV2⟩
  case round =>
    clear hV2 hres2
    obtain ⟨k, hk, hgm, rfl, hE, hV⟩ := hrel
    by_cases hlt : k < n
    · obtain ⟨g, rfl, _, _, zz, _⟩ := hV.out.vec_at ed_len hn.out hlt
      have hg : S.getD k default = S[k]'(by rw [hn.out]; exact hlt) := by simp [List.getD, show k < S.length by rw [hn.out]; exact hlt]
      have hD := Lib.hid (show S.drop k = S.getD k default :: S.drop (k + 1) by rw [hg]; exact List.drop_eq_getElem_cons (by rw [hn.out]; exact hlt))
      rw [hD.out, cycG_cons] at hE
      generalize S.getD k default = ed at *
      obtain ⟨fr, tgt⟩ := ed
      have z0 := zz 0 _ rfl
      have z1 := zz 1 _ rfl
      rw [Nat.add_zero] at z0
      simp only at hE
      have i1 : (0 : Int) ≤ (k : Int) := by omega
      have i2 : (k : Int) < (n : Int) := by omega
      clear zz hg hD
      have hB := Lib.hid (hV.out.alloc #[.int .i64 fr, .int .i64 tgt] 30)
      clear hV
      obtain ⟨_, c0, c1, _⟩ := hB.out.b2
      go_wp2_with fail
      replace hB := Lib.hid (hB.out.to3.to3)
      generalize wr.heap.size = EB at *
      refine (hW.out fr _ _ hB.out).mono ?_
      rintro e w3 ⟨mb, a2, c2, bk, rfl, hb, hbl, q⟩
      obtain rfl := wyN_of hb
      clear hb hbl hB
      have hV := Lib.hid q.drop1.to3
      clear q
      have hkl := hwl.out fr
      have hnd := Lib.hid (wyN_nodup N fr)
      have htr := Lib.hid (wyN_tr N fr)
      have hst := Lib.hid (fun h => onB_start (N := N) (fr := fr) h)
      unfold rsC at hE
      generalize wyN N fr = bk at *
      obtain ⟨_, c0, c1, _⟩ := hV.out.b2
      cases hh : hasL bk fr with
      | false =>
        rw [hh, if_neg (by simp)] at hE
        generalize hlv : ((getL bk fr).map ekI).getD (.int .i64 0) = lv at *
        go_wp2_with (at_lookup; refine wpList_lookup_map hV.out.to1 lawI und_back rfl (.tmp 30) (.tmp 32) true rfl (zero_int _) rfl fr rfl ?_; rw [if_pos rfl, hh, hlv])
        go_roundg (n - (k + 1))
        case measure => omega
        case rel => exact ⟨k + 1, by omega, rfl, by go_num, hE, Lib.hid hV.out.drop1.tail.to2⟩
      | true =>
        rw [hh, if_pos rfl] at hE
        replace hst := Lib.hid (hst.out (hasL_iff.1 hh))
        have hlv : ∀ x, ((getL bk x).map ekI).getD (.int .i64 0) = .int .i64 (stepB bk x) := fun x => by unfold stepB; cases getL bk x <;> rfl
        go_wp2_with (at_lookup; first | (refine wpList_lookup_map hV.out.to1 lawI und_back rfl (.tmp 30) (.tmp 32) true rfl (zero_int _) rfl fr rfl ?_; rw [if_pos rfl, hh, hlv]) | (refine wpList_lookup_map hV.out.to1 lawI und_back rfl (.tmp 38) (.tmp 40) false rfl (zero_int _) rfl fr rfl ?_; rw [if_neg (by simp), hlv]))
        generalize hD : bk.length = D at *
        obtain ⟨P, hP⟩ : ∃ P, Hid (pathB bk fr D (stepB bk fr) = P) := ⟨_, rfl⟩
        rw [hP.out] at hE
        have hV0 := Lib.hid (hV.out.vec_nil 3 1)
        replace hD := Lib.hid hD
        clear hV hh
        go_loopg [11, 12] D (fun gm s11 s12 W => ∃ (o : List Int) (x : Int) (ao : Option Addr) (co f : Nat), gm = f ∧ o.length + f = D ∧ s11 = .slice ao o.length co ∧ s12 = .int .i64 x ∧ Hid (onB bk fr f x) ∧ Hid (P = o ++ pathB bk fr f x) ∧ Hid (Sep W [vec 3 1 (.slice ao o.length co) o.length (o.map (Value.int .i64)), blk EB 30 #[.int .i64 fr, .int .i64 tgt], mapr ekI ekI mb bk, mapr ekI (id : Value → Value) b es, rowsR R, vec 30 2 (.slice (some ⟨g, 0, none⟩) n c) n (S.flatMap Ed.cells), old w]))
        case atStart => exact ⟨[], stepB bk fr, none, 0, D, rfl, by simp, rfl, rfl, hst, Lib.hid (by rw [← hP.out]; rfl), hV0⟩
        case round =>
          clear hV0 hst
          obtain ⟨o, x, ao, co, f, hg2, hol, rfl, rfl, hon, hPo, hV⟩ := hrel
          obtain ⟨_, c0, c1, _⟩ := hV.out.to1.b2
          have hoD := Lib.hid (show o.length ≤ D by omega)
          have h1c : Hid (∀ y, ∀ u ∈ ([.int .i64 y] : List Value), u.oneCell' = true) := Lib.hid (by simp [Value.oneCell'])
          by_cases hx : fr = x
          · subst hx
            rw [hPo.out, pathB_fr, List.append_nil] at hE
            have hkl2 := Lib.hid hkl
            clear hPo hkl
            go_wp2_with (at_builtin; refine wpList_append_sep (hV.out.allocG _) rfl _ _ 25 rfl i0 _ 8 Tryz.underlying25 hi0 hz0 hz1 hz2 rfl (by decide) rfl 1 [.int .i64 fr] (SrcA.one _ _ _ _) (h1c.out _) (by have := hoD.out; have := hkl2.out; simp only [maxLen]; omega) (by have := hoD.out; have := hkl2.out; omega) ?_; intro oa' oc' w4 q2; replace q2 := Lib.hid q2)
            have hRv := Lib.hid (revI_any oa' (o.length + 1) oc' (o ++ [fr]) w4 _ (by rw [List.map_append]; exact q2.out) (by simp) (by omega) (by have := hoD.out; have := hkl2.out; omega))
            refine hRv.out.mono ?_
            rintro e w5 ⟨rfl, q3⟩
            replace q3 := Lib.hid q3
            clear hRv q2
            go_wp2_with fail
            refine bodyPost_ret (v := .tuple #[.slice oa' (o.length + 1) oc', .bool true]) (by simp [results, Tryz.results5, go_sem, *]) rfl ⟨oa', oc', ?_, ?_⟩
            · rw [hres.out, hE.out]; simp
            · rw [hres.out, hE.out]
              have h := q3.out.drop1.drop1.drop1.drop1.drop1
              simpa using h
          · have hx2 : (x == fr) = false := by rw [beq_eq_false_iff_ne]; exact Ne.symm hx
            have hx3 : ¬ x = fr := Ne.symm hx
            obtain ⟨f, rfl⟩ : ∃ f', f = f' + 1 := ⟨f - 1, by have := onB_pos hon.out hx3; omega⟩
            have hon2 := Lib.hid (onB_step hnd.out htr.out hon.out hx3)
            rw [pathB_ne _ _ hx3] at hPo
            have hkl2 := Lib.hid hkl
            clear hon hkl
            go_wp2_with (first | (at_builtin; refine wpList_append_sep (hV.out.allocG _) rfl _ _ 25 rfl i0 _ 8 Tryz.underlying25 hi0 hz0 hz1 hz2 rfl (by decide) rfl 1 [.int .i64 x] (SrcA.one _ _ _ _) (h1c.out _) (by have := hoD.out; have := hkl2.out; simp only [maxLen]; omega) (by have := hoD.out; have := hkl2.out; omega) ?_; intro oa' oc' w4 q2; replace q2 := Lib.hid q2) | (at_lookup; refine wpList_lookup_map q2.out.to2 lawI und_back rfl (.tmp 46) (.tmp 47) false rfl (zero_int _) rfl x rfl ?_; rw [if_neg (by simp), hlv]))
            go_roundg f
            case measure => omega
            case rel => exact ⟨o ++ [x], stepB bk x, oa', oc', f, rfl, by simp; omega, by simp, rfl, hon2, Lib.hid (by rw [hPo.out]; simp), Lib.hid (by have h := q2.out; simpa using h)⟩
    · have hkn : k = n := by omega
      subst hkn
      have hd : S.drop k = [] := by rw [← hn.out, List.drop_length]
      rw [hd] at hE
      go_wp2_with fail
      refine bodyPost_ret (v := .tuple #[.slice none 0 0, .bool false]) (by simp [results, Tryz.results5, go_sem, *]) rfl ⟨none, 0, ?_, ?_⟩
      · rw [hres.out, hE.out]; rfl
      · rw [hres.out, hE.out]
        exact (hV.out.tail.tail.tail.vec_nil 3 1)
end Go.Proofs.YtcnkmhfcgkbhbaaGreat
namespace Go.Proofs.YtcnkmhfcgkbhbaaGreat
open Go.RowKit
theorem same_true (u v : Value) (xs : List Int) (w : World) (hn : xs.length ≤ 1000) (hu : RI w u xs) (hv : RI w v xs) :
   Calls Tryz.prog 8 #[u, v] w fun e w' => e = .returned (.bool true) ∧ ∃ m, w' = w.drewN m := by
  obtain ⟨a, c, rfl, hr⟩ := hu
  obtain ⟨a', c', rfl, hr'⟩ := hv
  have HR := Lib.hid hr
  have HR' := Lib.hid hr'
  clear hr hr'
  generalize hl : xs.length = n at *
  have hl := Lib.hid hl
  go_enter Tryz.func8, Tryz.ntmps8
  go_wp2
  go_loopw [5] (fun i w1 => ∃ k : Nat, k ≤ n ∧ i = .int .i64 k ∧ ∃ m, w1 = w.drewN m) (fun i _ => n - (intOf i).toNat)
  case atStart => exact ⟨0, Nat.zero_le _, rfl, 0, rfl⟩
  case round =>
    obtain ⟨k, hk, rfl, m, rfl⟩ := hrel
    by_cases hlt : k < n
    · obtain ⟨b, off, rfl, _, hc⟩ := HR.out (by omega)
      obtain ⟨b', off', rfl, _, hc'⟩ := HR'.out (by omega)
      have h1 := hc k hlt
      have h2 := hc' k hlt
      clear hc hc' HR HR'
      generalize xs.getD k 0 = x at *
      go_wp2_with fail
      go_quiet (fail)
      go_wp2_with fail
      go_roundw
      case rel => exact ⟨k+1, by omega, by go_num, _, rfl⟩
      case measure => simp [intOf]; omega
    · go_wp2
      go_ret
      exact ⟨rfl, _, rfl⟩
end Go.Proofs.YtcnkmhfcgkbhbaaGreat
namespace Go.Proofs.YtcnkmhfcgkbhbaaGreat
open Go.RowKit
theorem reachL_any (v : Value) (L : List Ed) (fr : Int) (w : World) (hv : RL w v 2 L.length (L.flatMap Ed.cells)) (hl : L.length ≤ 1000) :
    Calls Tryz.prog 14 #[v, .int .i64 fr] w fun e w' => ∃ a c, e = .returned (.slice a (rcL L fr).length c) ∧ Sep w' [vec 3 1 (.slice a (rcL L fr).length c) (rcL L fr).length ((rcL L fr).map (Value.int .i64)), old w] := by
  refine (reach_any v L fr w hv hl).mono ?_
  rintro e w' ⟨a, c, bk, rfl, hb, _, q⟩
  obtain rfl := wyN_of hb
  rw [rcL_len]
  exact ⟨a, c, rfl, q⟩
theorem acyclic_any (v : Value) (L : List Ed) (w : World) (hv : RL w v 2 L.length (L.flatMap Ed.cells)) (hl : L.length ≤ 1000) :
    Calls Tryz.prog 9 #[v] w fun e w' => e = .returned (.bool !(cyc L).2) ∧ Below w.heap.size w w' := by
  have HC := Lib.hid (cycle_any v L w hv hl)
  clear hv
  go_enter Tryz.func9, Tryz.ntmps9
  go_wp2_with fail
  refine HC.out.mono ?_
  rintro e w1 ⟨a, c, rfl, q⟩
  replace q := Lib.hid q
  clear HC
  go_wp2_with fail
  go_ret
  exact ⟨rfl, q.out.tail.gold⟩
end Go.Proofs.YtcnkmhfcgkbhbaaGreat
namespace Go.Proofs.YtcnkmhfcgkbhbaaGreat
open Go.RowKit
abbrev exL : List Ed := [⟨1, 2⟩, ⟨2, 3⟩, ⟨3, 1⟩, ⟨2, 1⟩]
theorem ex_sd : sdE exL = [⟨1, 2⟩, ⟨2, 1⟩, ⟨2, 3⟩, ⟨3, 1⟩] := by
  refine ltE_uniq _ _ (sdE_pw _) ?_ fun e => ?_
  · simp [ltE]
  · rw [sdE_mem]
    simp only [exL, List.mem_cons, List.not_mem_nil, or_false]
    constructor
    · rintro (h | h | h | h) <;> simp [h]
    · rintro (h | h | h | h) <;> simp [h]
theorem ex_cyc : cyc exL = ([1, 2], true) := by
  unfold cyc nxL
  rw [ex_sd]
  rfl
theorem ex_rl {w : World} {g : Nat} {rs : List Res} (h : Sep w (blk g 30 #[.int .i64 1, .int .i64 2, .int .i64 2, .int .i64 3, .int .i64 3, .int .i64 1, .int .i64 2, .int .i64 1] :: rs)) : RL w (.slice (some ⟨g, 0, none⟩) 4 4) 2 exL.length (exL.flatMap Ed.cells) :=
  (h.blk_vec (size := 2) (n := 4) (c := 4) (xs := exL.flatMap Ed.cells) rfl (Nat.le_refl _) (by decide) rfl rfl).vec_rl
theorem ri_two {w : World} {g : Nat} {x y : Int} {t : TypeId} {rs : List Res} (h : Sep w (blk g t #[.int .i64 x, .int .i64 y] :: rs)) : RI w (.slice (some ⟨g, 0, none⟩) 2 2) [x, y] :=
  ⟨_, 2, rfl, fun _ => ⟨g, 0, rfl, h.b2.1, fun j hj => by
    have h2 : j = 0 ∨ j = 1 := by simp at hj; omega
    rcases h2 with rfl | rfl
    · exact h.b2.2.1
    · exact h.b2.2.2.1⟩⟩
set_option maxHeartbeats 4000000 in
set_option maxRecDepth 100000 in
theorem lives_any (w : World) : Calls Tryz.prog 4 #[] w fun e w' => e = .returned (.bool true) ∧ Below w.heap.size w w' := by
  have hS := Lib.hid ((Sep.start w).alloc #[.int .i64 1, .int .i64 2, .int .i64 2, .int .i64 3, .int .i64 3, .int .i64 1, .int .i64 2, .int .i64 1] 30)
  have HC := Lib.hid (cycle_any _ exL _ (ex_rl hS.out) (by decide))
  rw [ex_cyc] at HC
  go_enter Tryz.func4, Tryz.ntmps4
  go_wp2_with fail
  refine HC.out.mono ?_
  rintro e w1 ⟨a, c, rfl, q⟩
  simp only [List.length_cons, List.length_nil] at q ⊢
  replace hS := Lib.hid (q.graft hS.out)
  clear q HC
  replace hS := Lib.hid (hS.out.alloc #[.int .i64 1, .int .i64 2] 3)
  go_wp2_with fail
  refine (same_true _ _ [1, 2] _ (by decide) hS.out.to1.vec_ri (ri_two hS.out)).mono ?_
  rintro e w2 ⟨rfl, m, rfl⟩
  replace hS := Lib.hid (hS.out.drewN m)
  go_wp2_with fail
  go_ret
  exact ⟨rfl, hS.out.tail.tail.tail.gold⟩
end Go.Proofs.YtcnkmhfcgkbhbaaGreat
namespace Go.Proofs.YtcnkmhfcgkbhbaaGreat
open Go.RowKit
/-- Edges as they come in. -/
def edL (len : Nat) (z : Nat → Nat → Int) : List Ed := (List.range len).map fun k => ⟨z k 0, z k 1⟩
theorem edL_len (len : Nat) (z : Nat → Nat → Int) : (edL len z).length = len := by simp [edL]
theorem edL_rl {w : World} {a : Option Addr} {len cap : Nat} {z : Nat → Nat → Int} (h : IsRows 2 w a len cap z) (hn : a = none → cap = 0) : RL w (.slice a len cap) 2 (edL len z).length ((edL len z).flatMap Ed.cells) := by
  refine ⟨flat_len Ed.cells 2 ed_len _, a, cap, by rw [edL_len], by rw [edL_len]; exact h.1, hn, fun h0 => ?_⟩
  rw [edL_len] at h0
  obtain ⟨b, off, rfl, hb, hz⟩ := h.2.2 h0
  refine ⟨b, off, rfl, hb, fun j u hj => ?_⟩
  have hj2 : j < len * 2 := by
    have := (List.getElem?_eq_some_iff.1 hj).1
    rw [flat_len Ed.cells 2 ed_len, edL_len] at this
    exact this
  have hk : (edL len z)[j / 2]? = some ⟨z (j / 2) 0, z (j / 2) 1⟩ := by
    unfold edL
    rw [List.getElem?_map, List.getElem?_range (by omega)]
    rfl
  have hf := flat_at Ed.cells 2 ed_len (edL len z) (j / 2) (j % 2) _ hk (by omega)
  rw [show j / 2 * 2 + j % 2 = j by omega, hj] at hf
  have hc := (hz (j / 2) (by omega) (j % 2) (by omega)).1
  rw [show off + j / 2 * 2 + j % 2 = off + j by omega] at hc
  rw [hc]
  have h2 : j % 2 = 0 ∨ j % 2 = 1 := by omega
  rcases h2 with h2 | h2
  · rw [h2] at hf ⊢; exact hf.symm
  · rw [h2] at hf ⊢; exact hf.symm
/-- The first few of some edges. -/
theorem RL.take {w : World} {a : Option Addr} {c k : Nat} {L : List Ed} (h : RL w (.slice a L.length c) 2 L.length (L.flatMap Ed.cells)) (hk : k ≤ L.length) : RL w (.slice a k c) 2 (L.take k).length ((L.take k).flatMap Ed.cells) := by
  have hl : (L.take k).length = k := by rw [List.length_take]; omega
  obtain ⟨_, a', c', hv, hc, hn, hz⟩ := h
  injection hv with e1 _ e3
  subst e1 e3
  refine ⟨flat_len Ed.cells 2 ed_len _, a, c, by rw [hl], by omega, hn, fun h0 => ?_⟩
  obtain ⟨b, off, ha, hb, hz⟩ := hz (by omega)
  refine ⟨b, off, ha, hb, fun j u hj => hz j u ?_⟩
  rw [← flat_take Ed.cells 2 ed_len L k hk, List.getElem?_take] at hj
  split at hj
  · exact hj
  · cases hj
theorem Sep.vec_ptr {w : World} {e : TypeId} {sz n c : Nat} {a : Option Addr} {cs : List Value} {rs : List Res} (h : Sep w (vec e sz (.slice a n c) n cs :: rs)) (h0 : 0 < n) : ∃ g, a = some ⟨g, 0, none⟩ := by
  rcases h.gvec.2 with ⟨_, h1⟩ | ⟨g, cap, cur, hv, _⟩
  · omega
  · injection hv with e1 _ _
    exact ⟨g, e1⟩
theorem int_at {xs : List Int} {i : Nat} (h : i < xs.length) : (xs.map (Value.int .i64))[i]? = some (.int .i64 (xs.getD i 0)) := by
  rw [List.getElem?_map, List.getElem?_eq_getElem h]
  simp [List.getD, h]
end Go.Proofs.YtcnkmhfcgkbhbaaGreat
