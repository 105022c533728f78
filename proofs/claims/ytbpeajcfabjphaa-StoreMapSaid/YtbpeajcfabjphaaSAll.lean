/-
  The store's All: its records, by rising names. No condition beside a store that can be read.
-/
import Derived.Test.YtbpeajcfabjphaaNSo
import Derived.Test.YtbpeajcfabjphaaRow
namespace Go.Proofs.Ytbpeajcfabjphaa
open Go.RowKit Go.Shelf
def leB (a b : Int × Int) : Bool := decide (a.1 < b.1 ∨ a.1 = b.1 ∧ a.2 ≤ b.2)
/-- The records by rising names. -/
def srtE (E : Ent) : Ent := E.mergeSort fun a b => leB a.1 b.1
theorem srtE_perm (E : Ent) : (srtE E).Perm E := List.mergeSort_perm E _
theorem srtE_len (E : Ent) : (srtE E).length = E.length := (srtE_perm E).length_eq
theorem srtE_pw (E : Ent) : (srtE E).Pairwise fun a b => leN a.1 b.1 := by
  refine (List.pairwise_mergeSort (le := fun a b : (Int × Int) × Int => leB a.1 b.1) (fun a b c h1 h2 => ?_) (fun a b => ?_) E).imp (fun {a b} h => ?_)
  · simp only [leB, decide_eq_true_eq] at *; omega
  · simp only [leB, Bool.or_eq_true, decide_eq_true_eq]; omega
  · simp only [leB, decide_eq_true_eq] at h; exact h
theorem srtE_uniq {E L : Ent} (hn : NodupL E) (hp : L.Perm E) (hs : L.Pairwise fun a b => leN a.1 b.1) : L = srtE E := by
  refine List.Perm.eq_of_pairwise (le := fun a b : (Int × Int) × Int => leN a.1 b.1) (fun a b ha hb h1 h2 => ?_) hs (srtE_pw E) (hp.trans (srtE_perm E).symm)
  have hab : a.1 = b.1 := by
    unfold leN at h1 h2
    exact Prod.ext (by omega) (by omega)
  have ha' := (getL_some_iff hn (a := a.1) (v := a.2)).2 (hp.mem_iff.1 ha)
  have hb' := (getL_some_iff hn (a := b.1) (v := b.2)).2 ((srtE_perm E).mem_iff.1 hb)
  rw [hab, hb'] at ha'
  exact Prod.ext hab (Option.some.inj ha').symm
def rowF (E : Ent) (y : Int × Int) : (Int × Int) × Int := (y, (getL E y).getD 0)
theorem rows_srt {E : Ent} (hn : NodupL E) {ys : List (Int × Int)} (hp : ys.Perm (E.map (·.1))) (hs : ys.Pairwise leN) : ys.map (rowF E) = srtE E := by
  refine srtE_uniq hn ?_ (List.pairwise_map.2 hs)
  have h := hp.map (rowF E)
  rw [List.map_map] at h
  refine h.trans (List.Perm.of_eq ?_)
  refine (List.map_congr_left fun p hp => ?_).trans (List.map_id E)
  have := (getL_some_iff hn (a := p.1) (v := p.2)).2 hp
  simp [rowF, this]
set_option maxHeartbeats 1000000 in
theorem sortedFunc_any {V : Type} (ev : V → Value) (Bm b : Nat) (E : List ((Int × Int) × V)) (w : World) (hB : Bm < w.heap.size) (hm : w.cell? ⟨Bm, 0, none⟩ = some (.map (some b))) (hown : MapAt w b (E.map fun p => (ekN p.1, ev p.2))) (hE : E.length ≤ 1000) :
    Calls Try.prog 35 #[.func (.func keyfn) #[] #[.pointer (some ⟨Bm, 0, none⟩)], .func (.func 37) #[] #[]] w fun e w' => ∃ (a : Option Addr) (c : Nat) (ys : List (Int × Int)), e = .returned (.slice a E.length c) ∧ ys.Perm (E.map (·.1)) ∧ ys.Pairwise leN ∧ Sep w' [vec 24 2 (.slice a E.length c) E.length (ys.flatMap nmC), old w] := by
  have HC := Lib.hid ((callsIn_wide (n := 8)).1 (collect_in ev 8 (by omega) Bm b E w hB hm hown hE))
  have HS := Lib.hid (fun a n c xs W rs hS hl hn => sortNames_any a n c xs W rs hS hl hn)
  clear hB hm hown
  replace hE := Lib.hid hE
  go_enter Try.func35, Try.ntmps35
  go_wp2_with fail
  refine HC.out.mono ?_
  rintro e w1 ⟨v, ss, rfl, hp, hrow, hb⟩
  obtain ⟨a, c, rfl⟩ := own_slice hrow
  have hl : ss.length = E.length := by rw [hp.length_eq, List.length_map]
  have hV := Lib.hid ((Sep.start w).vec_new hrow hb)
  rw [hl] at hV ⊢
  replace hl := Lib.hid hl
  replace hp := Lib.hid hp
  clear HC hrow hb
  go_wp2_with fail
  refine (HS.out a E.length c ss _ _ hV.out hl.out (by have := hE.out; omega)).mono ?_
  rintro e w2 ⟨rfl, ys, hy, hpw, q⟩
  replace q := Lib.hid q
  replace hy := Lib.hid (hy.trans hp.out)
  replace hpw := Lib.hid hpw
  go_wp2_with fail
  go_ret
  exact ⟨a, c, ys, rfl, hy.out, hpw.out, q.out⟩
theorem keys_any (mb : Option Nat) (w : World) : Calls Try.prog 36 #[.map mb] w fun e w' => e = .returned (.func (.func keyfn) #[] #[.pointer (some ⟨w.heap.size, 0, none⟩)]) ∧ w' = w.alloc (.cells #[.map mb] 61) := (callsIn_wide (n := 8)).1 (keys_in 8 mb w)
theorem cells_nm {w : World} {a : Option Addr} {n c : Nat} {l : List (Int × Int)} (hv : RL w (.slice a n c) 2 n (l.flatMap nmC)) (hn : l.length = n) (h0 : 0 < n) : ∃ b off, a = some ⟨b, off, none⟩ ∧ b < w.heap.size ∧ ∀ k x, l[k]? = some x → ∀ j u, (nmC x)[j]? = some u → w.cell? ⟨b, off + (k * 2 + j), none⟩ = some u := by
  subst hn
  obtain ⟨b, off, c', hv', _, hb, h⟩ := RL.at_ nmC_len hv h0
  injection hv' with e1 _ _
  exact ⟨b, off, e1, hb, h⟩
theorem rows_snoc (E : Ent) (ys : List (Int × Int)) (k : Nat) (y : Int × Int) (h : ys[k]? = some y) : ((ys.take (k + 1)).map (rowF E)).flatMap rowC = ((ys.take k).map (rowF E)).flatMap rowC ++ [.int .i64 y.1, .int .i64 y.2, .int .i64 ((getL E y).getD 0)] := by
  obtain ⟨h1, h2⟩ := List.getElem?_eq_some_iff.1 h
  rw [List.take_succ_eq_append_getElem h1, h2, List.map_append, List.flatMap_append]
  simp [rowC, rowF]
set_option maxHeartbeats 4000000 in
set_option maxRecDepth 100000 in
theorem all_any (p m : Nat) (E : Ent) (w : World) (rs : List Res) (hS : Sep w (sto p m E rs)) (hE : E.length ≤ 1000) :
    Calls Try.prog 13 #[.pointer (some ⟨p, 0, none⟩)] w fun e w' => ∃ (a : Option Addr) (c : Nat), e = .returned (.slice a (srtE E).length c) ∧ Sep w' (vec 39 3 (.slice a (srtE E).length c) (srtE E).length ((srtE E).flatMap rowC) :: sto p m E rs) := by
  have hnd := Lib.hid (hS.to1.map_nodup lawN)
  obtain ⟨_, c0, _⟩ := hS.b1
  have hB0 := Lib.hid (hS.alloc #[.map (some m)] 61)
  have HSF := Lib.hid (sortedFunc_any evI w.heap.size m E _ hB0.out.b1.1 hB0.out.b1.2.1 hB0.out.to2.gmap hE)
  obtain ⟨i0, hi0, hz0, hz1, hz2⟩ := info_parts info_row
  obtain ⟨n, hn⟩ : ∃ n, E.length = n := ⟨_, rfl⟩
  rw [srtE_len, hn]
  rw [hn] at HSF hE
  replace hE := Lib.hid hE
  replace hn := Lib.hid hn
  replace hS := Lib.hid hS
  go_enter Try.func13, Try.ntmps13
  go_wp2_with fail
  refine (keys_any _ _).mono ?_
  rintro e w1 ⟨rfl, rfl⟩
  go_wp2_with fail
  refine HSF.out.mono ?_
  rintro e w2 ⟨na, nc, ys, rfl, hp, hpw, q⟩
  have hV := Lib.hid ((q.graft hB0.out).drop1.vec_nil 39 3)
  have hl : ys.length = n := by rw [hp.length_eq, List.length_map]; exact hn.out
  have hfin := Lib.hid (rows_srt hnd.out hp hpw)
  have hsn := Lib.hid (rows_snoc E ys)
  obtain ⟨ns, hns⟩ : ∃ ns, Hid (ys.flatMap nmC = ns) := ⟨_, rfl⟩
  rw [hns.out] at hV
  replace hl := Lib.hid hl
  clear q hp hpw HSF hB0 c0 hS
  go_wp2_with fail
  go_loopg [2, 14] n (fun gm s2 s14 W => ∃ (k : Nat) (oa : Option Addr) (oc : Nat), k ≤ n ∧ gm = n - k ∧ s2 = .slice oa k oc ∧ s14 = .int .i64 k ∧ Hid (Sep W (vec 39 3 (.slice oa k oc) k (((ys.take k).map (rowF E)).flatMap rowC) :: vec 24 2 (.slice na n nc) n ns :: sto p m E rs)))
  case atStart => exact ⟨0, none, 0, Nat.zero_le _, rfl, rfl, rfl, Lib.hid (by simpa using hV.out)⟩
  case round =>
    clear hV
    obtain ⟨k, oa, oc, hk, hgm, rfl, rfl, hV⟩ := hrel
    by_cases hlt : k < n
    · have hkl : k < ys.length := by rw [hl.out]; exact hlt
      obtain ⟨bb, off, rfl, hbb, zz⟩ := cells_nm (by have := hV.out.to1.vec_rl; rw [← hns.out] at this; exact this) hl.out (by omega)
      have hg : ys[k]? = some ys[k] := List.getElem?_eq_getElem hkl
      have z0 := zz k _ hg 0 _ rfl
      have z1 := zz k _ hg 1 _ rfl
      rw [Nat.add_zero] at z0
      rw [← Nat.add_assoc] at z1
      have hsk := Lib.hid (hsn.out k _ hg)
      clear zz hg
      generalize ys[k] = y at *
      obtain ⟨t, r⟩ := y
      simp only at z0 z1 hsk
      obtain ⟨gv, hgv⟩ : ∃ gv, Hid ((getL E (t, r)).getD 0 = gv) := ⟨_, rfl⟩
      rw [hgv.out] at hsk
      have i1 : (0 : Int) ≤ (k : Int) := by omega
      have i2 : (k : Int) < (n : Int) := by omega
      have hE2 := hE.out
      have hkn := Lib.hid (show k ≤ 1000 by omega)
      have hms := Lib.hid (show n - (k + 1) < n - k from Nat.sub_lt_sub_left hlt (Nat.lt_succ_self k))
      go_wp2_with fail
      have hB := Lib.hid (show Sep _ (blk wr.heap.size 24 #[.int .i64 t, .int .i64 r] :: _) from (hV.out.alloc #[.int .i64 t, .int .i64 r] 24).drew)
      generalize hgs : wr.heap.size = g at *
      clear hV z0 z1
      try unfold sto at hB
      have hS := Lib.hid (show (fun W : World => ∃ u k cs, Sep W (blk g 24 #[.int .i64 t, .int .i64 r] :: vec 39 3 u k cs :: vec 24 2 (.slice (some ⟨bb, off, none⟩) n nc) n ns :: blk p 63 #[.map (some m)] :: mapr ekN evI m E :: rs)) _ from ⟨_, _, _, hB.out⟩)
      refine hl_begin (fun W : World => ∃ u k cs, Sep W (blk g 24 #[.int .i64 t, .int .i64 r] :: vec 39 3 u k cs :: vec 24 2 (.slice (some ⟨bb, off, none⟩) n nc) n ns :: blk p 63 #[.map (some m)] :: mapr ekN evI m E :: rs)) [(0, true), (1, true), (2, true), (3, true), (4, true), (5, true), (6, true), (7, true), (8, true), (9, false), (10, false), (11, true)] (by kernel_rfl) (by kernel_rfl) (by kernel_rfl) rfl (fun _ _ _ _ _ h => h) hS.out ?_
      change HL _ _ _ _ _ _ (World.drew _)
      generalize World.drew _ = wd at *
      refine hl_take ?v1 rfl (by kernel_rfl) ?y1 ?z1
      case y1 => intro W hW; skip; replace hW := Lib.hid hW; go_simp; try rfl
      case z1 =>
      simp only [Act.put, List.setIfInBounds_toArray, List.set_cons_succ, List.set_cons_zero, List.getElem_toArray, List.getElem_cons_zero, List.getElem_cons_succ]
      refine hl_take ?v2 rfl (by kernel_rfl) ?y2 ?z2
      case y2 => intro W hW; obtain ⟨_, _, _, hW⟩ := hW; obtain ⟨_, d0, d1, _⟩ := hW.b2; obtain ⟨_, c0, _⟩ := hW.to3.b1; replace hW := Lib.hid hW; go_simp; try rfl
      case z2 =>
      simp only [Act.put, List.setIfInBounds_toArray, List.set_cons_succ, List.set_cons_zero, List.getElem_toArray, List.getElem_cons_zero, List.getElem_cons_succ]
      refine hl_take ?v3 rfl (by kernel_rfl) ?y3 ?z3
      case y3 => intro W hW; skip; replace hW := Lib.hid hW; go_simp; try rfl
      case z3 =>
      simp only [Act.put, List.setIfInBounds_toArray, List.set_cons_succ, List.set_cons_zero, List.getElem_toArray, List.getElem_cons_zero, List.getElem_cons_succ]
      refine hl_take ?v4 rfl (by kernel_rfl) ?y4 ?z4
      case y4 => intro W hW; skip; replace hW := Lib.hid hW; go_simp; try rfl
      case z4 =>
      simp only [Act.put, List.setIfInBounds_toArray, List.set_cons_succ, List.set_cons_zero, List.getElem_toArray, List.getElem_cons_zero, List.getElem_cons_succ]
      refine hl_take ?v5 rfl (by kernel_rfl) ?y5 ?z5
      case y5 => intro W hW; skip; replace hW := Lib.hid hW; go_simp; try rfl
      case z5 =>
      simp only [Act.put, List.setIfInBounds_toArray, List.set_cons_succ, List.set_cons_zero, List.getElem_toArray, List.getElem_cons_zero, List.getElem_cons_succ]
      refine hl_take ?v6 rfl (by kernel_rfl) ?y6 ?z6
      case y6 => intro W hW; obtain ⟨_, _, _, hW⟩ := hW; obtain ⟨_, d0, d1, _⟩ := hW.b2; obtain ⟨_, c0, _⟩ := hW.to3.b1; replace hW := Lib.hid hW; go_simp; try rfl
      case z6 =>
      simp only [Act.put, List.setIfInBounds_toArray, List.set_cons_succ, List.set_cons_zero, List.getElem_toArray, List.getElem_cons_zero, List.getElem_cons_succ]
      refine hl_take ?v7 rfl (by kernel_rfl) ?y7 ?z7
      case y7 => intro W hW; obtain ⟨_, _, _, hW⟩ := hW; obtain ⟨_, d0, d1, _⟩ := hW.b2; obtain ⟨_, c0, _⟩ := hW.to3.b1; replace hW := Lib.hid hW; go_simp; try rfl
      case z7 =>
      simp only [Act.put, List.setIfInBounds_toArray, List.set_cons_succ, List.set_cons_zero, List.getElem_toArray, List.getElem_cons_zero, List.getElem_cons_succ]
      refine hl_take ?v8 rfl (by kernel_rfl) ?y8 ?z8
      case y8 => intro W hW; obtain ⟨_, _, _, hW⟩ := hW; have hk := run_lookup_map lawN Try.underlying61 hW.to4 (zeroI W) (t, r) false; rw [if_neg (by decide), look_val] at hk; unfold ekN at hk; simp only at hk; rw [hgv.out] at hk; replace hW := Lib.hid hW; go_simp; try rfl
      case z8 =>
      simp only [Act.put, List.setIfInBounds_toArray, List.set_cons_succ, List.set_cons_zero, List.getElem_toArray, List.getElem_cons_zero, List.getElem_cons_succ]
      refine hl_take ?v9 rfl (by kernel_rfl) ?y9 ?z9
      case y9 => intro W hW; skip; replace hW := Lib.hid hW; go_simp; try rfl
      case z9 =>
      simp only [Act.put, List.setIfInBounds_toArray, List.set_cons_succ, List.set_cons_zero, List.getElem_toArray, List.getElem_cons_zero, List.getElem_cons_succ]
      refine hl_one rfl (by kernel_rfl) (fun K hK => ?_)
      go_simp
      replace hB := Lib.hid (hB.out.allocG (.cells #[.int .i64 t, .int .i64 r, .int .i64 gv] 39))
      have hsrc := Lib.hid (srcA_row wd #[.int .i64 t, .int .i64 r, .int .i64 gv] 39 1 3 rfl)
      refine hK.out _ _ ⟨_, _, _, hB.out⟩ ?_
      clear hK K
      try simp only [Act.put, List.setIfInBounds_toArray, List.set_cons_succ, List.set_cons_zero, List.getElem_toArray, List.getElem_cons_zero, List.getElem_cons_succ]
      refine hl_one rfl (by kernel_rfl) (fun K hK => ?_)
      refine wp_append_sep hB.out.to1 (.tmp 18) (.tmp 27) 40 (by rfl) i0 _ 24 Try.underlying40 hi0 hz0 hz1 hz2 rfl (by decide) (by rfl) 1 [.int .i64 t, .int .i64 r, .int .i64 gv] (by exact hsrc.out) (by simp [Value.oneCell']) ?c901 ?d901 ?_
      case c901 => have := hkn.out; simp only [maxLen]; omega
      case d901 => have := hkn.out; omega
      intro oa2 oc2 w3 q
      replace hB := Lib.hid (show Sep _ _ from q.to1)
      clear q hsrc
      refine hK.out _ _ ⟨_, _, _, hB.out⟩ ?_
      clear hK K
      try simp only [Act.put, List.setIfInBounds_toArray, List.set_cons_succ, List.set_cons_zero, List.getElem_toArray, List.getElem_cons_zero, List.getElem_cons_succ]
      refine hl_take ?v10 rfl (by kernel_rfl) ?y10 ?z10
      case y10 => intro W hW; skip; replace hW := Lib.hid hW; go_simp; try rfl
      case z10 =>
      simp only [Act.put, List.setIfInBounds_toArray, List.set_cons_succ, List.set_cons_zero, List.getElem_toArray, List.getElem_cons_zero, List.getElem_cons_succ]
      refine hl_done ?_
      clear hS
      go_wp2_with fail
      go_roundg (n - (k + 1))
      case measure => first | exact hms.out | (rw [hgm]; exact hms.out)
      case rel => have hkk := hkn.out; exact ⟨k + 1, oa2, oc2, by omega, rfl, rfl, by go_num, Lib.hid (by rw [hsk.out]; exact hB.out.tail)⟩
    · obtain rfl : k = n := by omega
      go_wp2_with fail
      go_ret
      refine ⟨oa, oc, rfl, ?_⟩
      have h := hV.out.drop1
      rw [← hl.out, List.take_length, hfin.out, hl.out] at h
      exact h
end Go.Proofs.Ytbpeajcfabjphaa
