/-
  Contracts and plain laws that the walk leans on, part 14. No condition.
-/
import Derived.Test.YtcnkmhfcgkbhbaaGreatZCl13
namespace Go.Proofs.YtcnkmhfcgkbhbaaGreat
open Go.RowKit
def addE (R : List (Int × List Int)) (e : Ed) : List (Int × List Int) :=
  match R with
  | [] => [(e.from_, [e.tgt])]
  | (k, xs) :: r => if k = e.from_ then (k, xs ++ [e.tgt]) :: r else (e.from_, [e.tgt]) :: (k, xs) :: r
def nxL (L : List Ed) : List (Int × List Int) := (sdE L).foldl addE []
theorem addE_keys (R : List (Int × List Int)) (e : Ed) : ∀ p ∈ addE R e, p.1 = e.from_ ∨ p ∈ R := by
  intro p hp
  unfold addE at hp
  split at hp
  · simp at hp; exact .inl (by rw [hp])
  · split at hp
    · rename_i h
      rcases List.mem_cons.1 hp with rfl | hp
      · exact .inl h
      · exact .inr (List.mem_cons_of_mem _ hp)
    · rcases List.mem_cons.1 hp with rfl | hp
      · exact .inl rfl
      · exact .inr hp
/-- What has been gone through has no larger keys, and each key once. -/
theorem nx_inv (S : List Ed) (hs : S.Pairwise ltE) : ∀ k (hk : k < S.length), ∀ p ∈ (S.take k).foldl addE [], p.1 ≤ S[k].from_
  | 0, _ => by simp
  | k + 1, hk => by
    intro p hp
    rw [List.take_succ_eq_append_getElem (by omega), List.foldl_append] at hp
    have h1 := List.pairwise_iff_getElem.1 hs k (k + 1) (by omega) hk (by omega)
    have h2 : S[k].from_ ≤ S[k + 1].from_ := by simp only [ltE] at h1; omega
    rcases addE_keys _ _ p hp with h | h
    · rw [h]; exact h2
    · exact Int.le_trans (nx_inv S hs k (by omega) p h) h2
theorem addE_pw {R : List (Int × List Int)} {e : Ed} (h : R.Pairwise (fun p q => q.1 < p.1)) (hle : ∀ p ∈ R, p.1 ≤ e.from_) : (addE R e).Pairwise (fun p q => q.1 < p.1) := by
  unfold addE
  split
  · simp
  · split
    · rw [List.pairwise_cons] at h ⊢
      exact h
    · rename_i k xs r hne
      rw [List.pairwise_cons]
      refine ⟨fun q hq => ?_, h⟩
      rcases List.mem_cons.1 hq with rfl | hq
      · have := hle _ (List.mem_cons_self ..)
        simp only at this ⊢
        omega
      · have h1 := (List.pairwise_cons.1 h).1 q hq
        have := hle _ (List.mem_cons_self ..)
        simp only at this h1 ⊢
        omega
theorem nx_pw (S : List Ed) (hs : S.Pairwise ltE) : ∀ k, k ≤ S.length → ((S.take k).foldl addE []).Pairwise (fun p q => q.1 < p.1)
  | 0, _ => by simp
  | k + 1, hk => by
    rw [List.take_succ_eq_append_getElem (by omega), List.foldl_append]
    exact addE_pw (nx_pw S hs k (by omega)) (nx_inv S hs k (by omega))
abbrev Row := Int × Value × List Int
def rowsR : List Row → Res
  | [] => prop True
  | r :: rs => star (vec 3 1 r.2.1 r.2.2.length (r.2.2.map (Value.int .i64))) (rowsR rs)
def rowsP (R : List Row) : List (Int × List Int) := R.map fun r => (r.1, r.2.2)
def rowOf (R : List Row) (a : Int) : Option Row := R.find? fun r => decide (r.1 = a)
def NX (es : List (Int × Value)) (R : List Row) : Prop := ∀ a, getL es a = (rowOf R a).map (·.2.1)
theorem addE_len {R : List (Int × List Int)} {e : Ed} {k : Nat} (h : ∀ p ∈ R, p.2.length ≤ k) : ∀ p ∈ addE R e, p.2.length ≤ k + 1 := by
  intro p hp
  unfold addE at hp
  split at hp
  · simp at hp; subst hp; simp
  · split at hp
    · rcases List.mem_cons.1 hp with rfl | hp
      · have := h _ (List.mem_cons_self ..)
        simp only [List.length_append, List.length_cons, List.length_nil] at this ⊢
        omega
      · have := h p (List.mem_cons_of_mem _ hp)
        omega
    · rcases List.mem_cons.1 hp with rfl | hp
      · simp
      · have := h p hp
        omega
theorem nx_len (S : List Ed) : ∀ k, k ≤ S.length → ∀ p ∈ (S.take k).foldl addE [], p.2.length ≤ k
  | 0, _ => by simp
  | k + 1, hk => by
    rw [List.take_succ_eq_append_getElem (by omega), List.foldl_append]
    exact addE_len (nx_len S k (by omega))
theorem rowOf_none {R : List Row} {a : Int} (h : ∀ p ∈ rowsP R, p.1 ≠ a) : rowOf R a = none := by
  unfold rowOf
  rw [List.find?_eq_none]
  intro r hr
  have := h (r.1, r.2.2) (List.mem_map.2 ⟨r, hr, rfl⟩)
  simpa using this
theorem rowOf_cons (k : Int) (v : Value) (xs : List Int) (R : List Row) (a : Int) : rowOf ((k, v, xs) :: R) a = if a = k then some (k, v, xs) else rowOf R a := by
  unfold rowOf
  rw [List.find?_cons]
  by_cases h : a = k
  · subst h; simp
  · simp [h, Ne.symm h]
/-- The row that is written next, brought to the front. -/
theorem nx_open {W : World} {es : List (Int × Value)} {R : List Row} {fr tgt : Int} {rs : List Res} (hS : Sep W (rowsR R :: rs)) (hN : NX es R) (hle : ∀ p ∈ rowsP R, p.1 ≤ fr) (hpw : (rowsP R).Pairwise (fun p q => q.1 < p.1)) :
    ∃ cv xs rest, Sep W (vec 3 1 cv xs.length (xs.map (Value.int .i64)) :: rowsR rest :: rs) ∧ ((getL es fr).map (id : Value → Value)).getD (.slice none 0 0) = cv ∧ (fr, xs ++ [tgt]) :: rowsP rest = addE (rowsP R) ⟨fr, tgt⟩ ∧
      ∀ cv', NX (putL es fr cv') ((fr, cv', xs ++ [tgt]) :: rest) := by
  have new : (∀ p ∈ rowsP R, p.1 ≠ fr) → ∃ cv xs rest, Sep W (vec 3 1 cv xs.length (xs.map (Value.int .i64)) :: rowsR rest :: rs) ∧ ((getL es fr).map (id : Value → Value)).getD (.slice none 0 0) = cv ∧ (fr, xs ++ [tgt]) :: rowsP rest = addE (rowsP R) ⟨fr, tgt⟩ ∧
      ∀ cv', NX (putL es fr cv') ((fr, cv', xs ++ [tgt]) :: rest) := by
    intro hne
    refine ⟨.slice none 0 0, [], R, hS.vec_nil _ _, by rw [hN, rowOf_none hne]; rfl, ?_, ?_⟩
    · cases R with
      | nil => rfl
      | cons r R =>
        have := hne (r.1, r.2.2) (by simp [rowsP])
        simp only at this
        simp [rowsP, addE, this]
    · intro cv' a
      rw [getL_putL, rowOf_cons]
      by_cases h : a = fr
      · simp [h]
      · rw [if_neg h, if_neg h]; exact hN a
  cases R with
  | nil => exact new (by simp [rowsP])
  | cons r R =>
    obtain ⟨k, v, xs⟩ := r
    by_cases hk : k = fr
    · subst hk
      have h2 := Sep.gstar.1 hS
      refine ⟨v, xs, R, h2, ?_, by simp [rowsP, addE], ?_⟩
      · rw [hN, rowOf_cons, if_pos rfl]; rfl
      · intro cv' a
        rw [getL_putL, rowOf_cons]
        by_cases h : a = k
        · simp [h]
        · rw [if_neg h, if_neg h, hN a, rowOf_cons, if_neg h]
    · refine new fun p hp => ?_
      have h1 := hle (k, xs) (by simp [rowsP])
      have h2 : (rowsP ((k, v, xs) :: R)) = (k, xs) :: rowsP R := rfl
      rw [h2] at hp hpw
      rcases List.mem_cons.1 hp with rfl | hp
      · exact hk
      · have h3 := (List.pairwise_cons.1 hpw).1 p hp
        simp only at h1 h3
        omega
theorem rows_cons {W : World} {k : Int} {v : Value} {n : Nat} {xs : List Int} {R : List Row} {rs : List Res} (hn : n = xs.length) (h : Sep W (vec 3 1 v n (xs.map (Value.int .i64)) :: rowsR R :: rs)) : Sep W (rowsR ((k, v, xs) :: R) :: rs) := by
  subst hn
  exact Sep.gstar.2 h
theorem lawI : KeyEnc Tryz.prog 3 ekI := keyEnc_int Tryz.underlying3
theorem srcA_cells (w : World) (cs : Array Value) (t : TypeId) (c sz : Nat) (hz : cs.size = sz) : SrcA (w.alloc (.cells cs t)) sz (.slice (some ⟨w.heap.size, 0, none⟩) 1 c) 1 cs.toList := by
  refine .inr ⟨_, _, rfl, by simpa using hz, fun j u hu => ?_⟩
  rw [Addr.add_lit, (Blk.new w t cs).cell]
  simpa using hu
theorem zero_ints (w : World) : (zeroValue 25).run Tryz.prog w = .ok (.slice none 0 0) w := by kernel_rfl
theorem und_nx : Tryz.prog.underlying 39 = some (.map 3 25) := by kernel_rfl
set_option maxHeartbeats 4000000 in
set_option maxRecDepth 100000 in
theorem nexts_any (v : Value) (L : List Ed) (w : World) (hv : RL w v 2 L.length (L.flatMap Ed.cells)) (hl : L.length ≤ 1000) :
    Calls Tryz.prog 21 #[v] w fun e w' => ∃ b es R, e = .returned (.map (some b)) ∧ rowsP R = nxL L ∧ NX es R ∧ Sep w' [mapr ekI id b es, rowsR R, old w] := by
  have HS := Lib.hid (fun W (h : RL W v 2 L.length (L.flatMap Ed.cells)) => sorted_any v L W h (by omega))
  have hsl := sdE_len L
  have hinv := Lib.hid (fun k hk => nx_inv (sdE L) (sdE_pw L) k hk)
  have hpw := Lib.hid (fun k hk => nx_pw (sdE L) (sdE_pw L) k hk)
  unfold nxL
  generalize sdE L = S at *
  replace HS := HS.out
  obtain ⟨n, hn⟩ : ∃ n, Hid (S.length = n) := ⟨_, rfl⟩
  rw [hn.out] at hsl
  simp only [hn.out] at HS
  replace HS := Lib.hid HS
  have hmm := @run_makeMap Tryz.prog
  have hM := Lib.hid ((Sep.start w).map_new ekI (id : Value → Value))
  replace hv := Lib.hid hv
  go_enter Tryz.func21, Tryz.ntmps21
  go_wp2_with fail
  clear hmm
  refine (HS.out _ (hv.out.below hM.out.tail.gold)).mono ?_
  rintro e w1 ⟨a, c, rfl, q⟩
  have hV := Lib.hid (q.graft hM.out)
  clear q HS hM hv
  generalize w.heap.size = m at *
  go_wp2_with fail
  go_loopw [10] (fun x wr => ∃ (k : Nat) (R : List Row) (es : List (Int × Value)), k ≤ n ∧ x = .int .i64 k ∧ Hid (rowsP R = (S.take k).foldl addE []) ∧ Hid (NX es R) ∧ Hid (Sep wr [rowsR R, mapr ekI (id : Value → Value) m es, vec 30 2 (.slice a n c) n (S.flatMap Ed.cells), old w])) (fun x _ => n - (intOf x).toNat)
  case atStart => exact ⟨0, [], [], Nat.zero_le _, rfl, Lib.hid rfl, Lib.hid (fun _ => rfl), Lib.hid ((Sep.gprop (p := True)).2 ⟨trivial, hV.out.to1⟩)⟩
  case round =>
    clear hV
    obtain ⟨k, R, es, hk, rfl, hR, hN, hV⟩ := hrel
    by_cases hlt : k < n
    · obtain ⟨g, rfl, _, _, zz, _⟩ := hV.out.to2.vec_at ed_len hn.out hlt
      have hg : S.getD k default = S[k]'(by rw [hn.out]; exact hlt) := by simp [List.getD, show k < S.length by rw [hn.out]; exact hlt]
      have hle := hinv.out k (by rw [hn.out]; exact hlt)
      have hpk := hpw.out k (by rw [hn.out]; exact hk)
      have hR2 := Lib.hid (show (S.take (k + 1)).foldl addE [] = addE ((S.take k).foldl addE []) (S.getD k default) by rw [hg, List.take_succ_eq_append_getElem (by rw [hn.out]; exact hlt), List.foldl_append]; rfl)
      have hln := Lib.hid (nx_len S (k + 1) (by rw [hn.out]; exact hlt))
      rw [hR2.out] at hln
      rw [← hg] at hle
      rw [← hR.out] at hle hpk hR2 hln
      generalize S.getD k default = ed at *
      obtain ⟨fr, tgt⟩ := ed
      have z0 := zz 0 _ rfl
      have z1 := zz 1 _ rfl
      rw [Nat.add_zero] at z0
      obtain ⟨cv, xs, rest, hV2, hlk, had, hnx⟩ := nx_open (tgt := tgt) hV.out hN.out hle hpk
      rw [← had] at hR2 hln
      have hxl : Hid (xs.length ≤ k) := Lib.hid (by have := hln.out _ (List.mem_cons_self ..); simp only [List.length_append, List.length_cons, List.length_nil] at this; omega)
      replace hV := Lib.hid hV2
      replace hnx := Lib.hid hnx
      replace hlk := Lib.hid hlk
      have i1 : (0 : Int) ≤ (k : Int) := by omega
      have i2 : (k : Int) < (n : Int) := by omega
      clear zz hg hle hpk had hln hV2 hN hR
      obtain ⟨xn, hxn⟩ : ∃ xn, Hid (xs.length = xn) := ⟨_, rfl⟩
      rw [hxn.out] at hV hxl
      have hB := Lib.hid (hV.out.alloc #[.int .i64 fr, .int .i64 tgt] 30)
      clear hV
      obtain ⟨i0, hi0, hz0, hz1, hz2⟩ := info_parts info_int
      have h1c : Hid (∀ u ∈ ([.int .i64 tgt] : List Value), u.oneCell' = true) := Lib.hid (by simp [Value.oneCell'])
      go_wp2_with fail
      replace hB := Lib.hid hB.out.to3.to1.drew
      generalize wr.heap.size = EB at *
      have hS := Lib.hid (show (fun W : World => ∃ u q cs, Sep W [blk EB 30 #[.int .i64 fr, .int .i64 tgt], mapr ekI (id : Value → Value) m es, vec 3 1 u q cs, rowsR rest, vec 30 2 (.slice (some ⟨g, 0, none⟩) n c) n (S.flatMap Ed.cells), old w]) _ from ⟨_, _, _, hB.out⟩)
      refine hx_begin (fun W : World => ∃ u q cs, Sep W [blk EB 30 #[.int .i64 fr, .int .i64 tgt], mapr ekI (id : Value → Value) m es, vec 3 1 u q cs, rowsR rest, vec 30 2 (.slice (some ⟨g, 0, none⟩) n c) n (S.flatMap Ed.cells), old w]) 11 [(0, true), (1, true), (2, true), (3, true), (4, true), (5, true), (6, true), (7, true), (8, true), (9, false), (10, false), (11, false)] [(10, 11), (0, 11), (1, 11), (2, 11), (3, 11), (4, 11), (5, 11), (6, 11), (7, 11), (8, 11), (9, 11)] (by kernel_rfl) (by kernel_rfl) (by kernel_rfl) (by kernel_rfl) rfl (by kernel_rfl) (by kernel_rfl) (fun _ _ _ _ _ h => h) hS.out ?_
      change HX _ _ _ _ _ _ _ (World.drew _)
      generalize World.drew _ = wd at *
      refine hx_take ?v0 rfl (by kernel_rfl) ?y0 ?z0
      case y0 => intro W hW; skip; replace hW := Lib.hid hW; go_simp; try rfl
      case z0 =>
      simp only [Act.put, List.setIfInBounds_toArray, List.set_cons_succ, List.set_cons_zero, List.getElem_toArray, List.getElem_cons_zero, List.getElem_cons_succ]
      refine hx_take ?v1 rfl (by kernel_rfl) ?y1 ?z1
      case y1 => intro W hW; skip; replace hW := Lib.hid hW; go_simp; try rfl
      case z1 =>
      simp only [Act.put, List.setIfInBounds_toArray, List.set_cons_succ, List.set_cons_zero, List.getElem_toArray, List.getElem_cons_zero, List.getElem_cons_succ]
      refine hx_take ?v2 rfl (by kernel_rfl) ?y2 ?z2
      case y2 => intro W hW; obtain ⟨_, _, _, hW⟩ := hW; obtain ⟨_, c0, c1, _⟩ := hW.b2; replace hW := Lib.hid hW; go_simp; try rfl
      case z2 =>
      simp only [Act.put, List.setIfInBounds_toArray, List.set_cons_succ, List.set_cons_zero, List.getElem_toArray, List.getElem_cons_zero, List.getElem_cons_succ]
      refine hx_take ?v3 rfl (by kernel_rfl) ?y3 ?z3
      case y3 => intro W hW; skip; replace hW := Lib.hid hW; go_simp; try rfl
      case z3 =>
      simp only [Act.put, List.setIfInBounds_toArray, List.set_cons_succ, List.set_cons_zero, List.getElem_toArray, List.getElem_cons_zero, List.getElem_cons_succ]
      refine hx_take ?v4 rfl (by kernel_rfl) ?y4 ?z4
      case y4 => intro W hW; skip; replace hW := Lib.hid hW; go_simp; try rfl
      case z4 =>
      simp only [Act.put, List.setIfInBounds_toArray, List.set_cons_succ, List.set_cons_zero, List.getElem_toArray, List.getElem_cons_zero, List.getElem_cons_succ]
      refine hx_take ?v5 rfl (by kernel_rfl) ?y5 ?z5
      case y5 => intro W hW; obtain ⟨_, _, _, hW⟩ := hW; obtain ⟨_, c0, c1, _⟩ := hW.b2; replace hW := Lib.hid hW; go_simp; try rfl
      case z5 =>
      simp only [Act.put, List.setIfInBounds_toArray, List.set_cons_succ, List.set_cons_zero, List.getElem_toArray, List.getElem_cons_zero, List.getElem_cons_succ]
      refine hx_take ?v6 rfl (by kernel_rfl) ?y6 ?z6
      case y6 => intro W hW; obtain ⟨_, _, _, hW⟩ := hW; have hk := run_lookup_map lawI und_nx hW.to1 (zero_ints W) fr false; rw [if_neg (by simp), hlk.out] at hk; unfold ekI at hk; replace hW := Lib.hid hW; go_simp; try rfl
      case z6 =>
      simp only [Act.put, List.setIfInBounds_toArray, List.set_cons_succ, List.set_cons_zero, List.getElem_toArray, List.getElem_cons_zero, List.getElem_cons_succ]
      refine hx_take ?v7 rfl (by kernel_rfl) ?y7 ?z7
      case y7 => intro W hW; skip; replace hW := Lib.hid hW; go_simp; try rfl
      case z7 =>
      simp only [Act.put, List.setIfInBounds_toArray, List.set_cons_succ, List.set_cons_zero, List.getElem_toArray, List.getElem_cons_zero, List.getElem_cons_succ]
      refine hx_take ?v8 rfl (by kernel_rfl) ?y8 ?z8
      case y8 => intro W hW; obtain ⟨_, _, _, hW⟩ := hW; obtain ⟨_, c0, c1, _⟩ := hW.b2; replace hW := Lib.hid hW; go_simp; try rfl
      case z8 =>
      simp only [Act.put, List.setIfInBounds_toArray, List.set_cons_succ, List.set_cons_zero, List.getElem_toArray, List.getElem_cons_zero, List.getElem_cons_succ]
      refine hx_one (by decide) rfl (by kernel_rfl) (fun K hK => ?_)
      go_simp
      replace hB := Lib.hid (hB.out.allocG (.cells #[.int .i64 tgt] 3))
      have hsrc := Lib.hid (srcA_cells wd #[.int .i64 tgt] 3 1 1 rfl)
      refine hK.out _ _ ⟨_, _, _, hB.out⟩ ?_
      clear hK K
      try simp only [Act.put, List.setIfInBounds_toArray, List.set_cons_succ, List.set_cons_zero, List.getElem_toArray, List.getElem_cons_zero, List.getElem_cons_succ]
      refine hx_one (by decide) rfl (by kernel_rfl) (fun K hK => ?_)
      refine wp_append_sep hB.out.to2 (.tmp 20) (.tmp 23) 25 (by rfl) i0 _ 8 Tryz.underlying25 hi0 hz0 hz1 hz2 rfl (by decide) (by rfl) 1 [.int .i64 tgt] (by exact hsrc.out) h1c.out ?c901 ?d901 ?_
      case c901 => have := hxl.out; simp only [maxLen]; omega
      case d901 => have := hxl.out; omega
      intro na nc w2 q
      replace hB := Lib.hid (show Sep _ _ from q.to2.to2)
      clear q hsrc
      refine hK.out _ _ ⟨_, _, _, hB.out⟩ ?_
      clear hK K
      try simp only [Act.put, List.setIfInBounds_toArray, List.set_cons_succ, List.set_cons_zero, List.getElem_toArray, List.getElem_cons_zero, List.getElem_cons_succ]
      refine hx_last rfl (by kernel_rfl) (fun K hK => ?_)
      refine wp_mapUpdate_map hB.out.to1 lawI und_nx (.tmp 14) (.tmp 16) (.tmp 24) (by rfl) (by rfl) fr (.slice na (xn + 1) nc) (by rfl) (by rfl) ?_
      intro w3 q
      replace hB := Lib.hid q
      clear q
      refine hK.out _ _ ?_
      clear hK K
      try simp only [Act.put, List.setIfInBounds_toArray, List.set_cons_succ, List.set_cons_zero, List.getElem_toArray, List.getElem_cons_zero, List.getElem_cons_succ]
      refine hx_done ?_
      clear hS
      go_wp2_with fail
      go_roundw
      case rel =>
        refine ⟨k + 1, (fr, .slice na (xn + 1) nc, xs ++ [tgt]) :: rest, putL es fr (.slice na (xn + 1) nc), by omega, by go_num, Lib.hid (by rw [hR2.out] <;> rfl), Lib.hid (hnx.out _), Lib.hid (rows_cons (by rw [List.length_append, hxn.out] <;> rfl) ?_)⟩
        have h := hB.out.drop1.to2.to2
        rw [List.map_append]
        exact h
      case measure => simp [intOf]; omega
    · have hkn : k = n := by omega
      subst hkn
      go_wp2_with fail
      go_ret
      exact ⟨m, es, R, rfl, by rw [hR.out, ← hn.out, List.take_length], hN.out, hV.out.to1.drop2⟩
end Go.Proofs.YtcnkmhfcgkbhbaaGreat
