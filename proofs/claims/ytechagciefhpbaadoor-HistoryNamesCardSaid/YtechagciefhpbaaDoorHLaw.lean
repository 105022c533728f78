/-
  Spans; the examples; what a walked history's spans are. No condition beside events that can be read.
-/
import Derived.Test.YtechagciefhpbaaDoorHResp
import Derived.Test.YtechagciefhpbaaDoorPick
import Derived.ArgAppend
namespace Go.Proofs.YtechagciefhpbaaDoor
set_option linter.unusedSimpArgs false
set_option linter.unusedVariables false
set_option linter.unnecessarySimpa false
open Go.RowKit
set_option maxHeartbeats 1000000 in
theorem spans_any (v : Value) (l : List Ev) (w : World) (hv : RL w v 9 l.length (ecells l)) (hl : l.length ≤ 1000) :
    Calls Tryd.prog 7 #[v] w fun r w' => ∃ sa sc, r = .returned (.slice sa (walkS l 0 []).1.length sc) ∧ Sep w' [vec 45 10 (.slice sa (walkS l 0 []).1.length sc) (walkS l 0 []).1.length (scells (walkS l 0 []).1), old w] := by
  have H := Lib.hid (walk_any v l w hv hl)
  clear hv
  obtain ⟨R, hR⟩ : ∃ R, walkS l 0 [] = R := ⟨_, rfl⟩
  rw [hR] at H ⊢
  clear hR
  go_enter Tryd.func7, Tryd.ntmps7
  go_wp2_with fail
  refine H.out.mono ?_
  rintro e w1 ⟨sa, sc, rfl, q⟩
  replace q := Lib.hid q
  go_wp2_with fail
  go_ret
  exact ⟨sa, sc, rfl, q.out⟩
theorem t_any (t : Int) (w : World) : Calls Tryd.prog 17 #[.int .i64 t] w fun r w' => r = .returned (.agg #[.int .i64 t, .int .i64 (-1)]) ∧ Below w.heap.size w w' := by
  have hb := Lib.hid ((Sep.start w).alloc #[.int .i64 t, .int .i64 (-1)] 26)
  go_enter Tryd.func17, Tryd.ntmps17
  go_wp2_with fail
  refine bodyPost_ret (v := .agg #[.int .i64 t, .int .i64 (-1)]) (by simp [results, Tryd.results17, go_sem]) rfl ⟨rfl, ?_⟩
  exact (Below.refl _ _).alloc (Nat.le_refl _) _
def three : List Ev := [⟨0, 0, true, ⟨1, 4, 1, -1, 3, 0⟩⟩, ⟨1, 1, true, ⟨2, 0, 1, -1, 0, 0⟩⟩, ⟨0, 0, false, ⟨0, 0, 0, 0, 0, 1⟩⟩]
theorem three_any (w : World) : Calls Tryd.prog 5 #[] w fun r w' => ∃ g, r = .returned (.slice (some ⟨g, 0, none⟩) 3 3) ∧ Sep w' [vec 31 9 (.slice (some ⟨g, 0, none⟩) 3 3) 3 (ecells three), old w] := by
  have hS := Lib.hid (Sep.start w)
  have H := Lib.hid (fun W => t_any 1 W)
  go_enter Tryd.func5, Tryd.ntmps5
  go_wp2_with fail
  refine (H.out _).mono ?_
  rintro e w1 ⟨rfl, q⟩
  replace hS := Lib.hid (hS.out.below q)
  clear q
  go_wp2_with fail
  refine (H.out _).mono ?_
  rintro e w2 ⟨rfl, q⟩
  replace hS := Lib.hid (hS.out.below q)
  clear q
  have hS9 := hS.out.alloc (ecells three).toArray 31
  replace hS := Lib.hid (Sep.blk_vec (size := 9) (n := 3) (c := 3) (xs := ecells three) hS9 rfl (by omega) (by simp only [maxLen]; omega) rfl rfl)
  clear hS9
  go_wp2_with fail
  go_ret
  exact ⟨_, rfl, hS.out⟩
def threeS : List Sp := [⟨0, 0, 0, 2, ⟨1, 4, 1, -1, 3, 1⟩⟩, ⟨1, 1, 1, -1, ⟨2, 0, 1, -1, 0, 0⟩⟩]
theorem three_walk : walkS three 0 [] = (threeS, 0, 0) := by decide
set_option maxHeartbeats 1000000 in
theorem lives_any (w : World) : Calls Tryd.prog 4 #[] w fun r w' => r = .returned (.bool true) ∧ Below w.heap.size w w' := by
  go_enter Tryd.func4, Tryd.ntmps4
  go_wp2_with fail
  refine (three_any _).mono ?_
  rintro e w1 ⟨g, rfl, q⟩
  have hG := Lib.hid q
  have H := Lib.hid (spans_any _ three _ hG.out.vec_rl (by decide))
  simp only [three_walk] at H
  replace H := Lib.hid H.out
  clear q
  go_wp2_with fail
  refine H.out.mono ?_
  rintro e w2 ⟨sa, sc, rfl, q⟩
  obtain ⟨g2, rfl⟩ : ∃ g, sa = some ⟨g, 0, none⟩ := by
    rcases q.gvec.2 with ⟨_, h1⟩ | ⟨g, cap, cur, hv, _⟩
    · exact absurd h1 (by decide)
    · injection hv with e1 _ _
      exact ⟨g, e1⟩
  have c0 := (q.vec_cell (k := 2) (u := .int .i64 0) rfl).1
  have c1 := (q.vec_cell (k := 3) (u := .int .i64 2) rfl).1
  have c2 := (q.vec_cell (k := 12) (u := .int .i64 1) rfl).1
  have c3 := (q.vec_cell (k := 13) (u := .int .i64 (-1)) rfl).1
  have hB := Lib.hid (hG.out.tail.below q.tail.gold)
  have e2 : threeS.length = 2 := rfl
  rw [e2]
  clear q e2 hG H
  go_wp2_with fail
  go_ret
  exact ⟨rfl, hB.out.gold⟩
/-- What the spans of a walked history are. -/
structure Fine (S : List Sp) (k : Nat) : Prop where
  at_ : ∀ s ∈ S, 0 ≤ s.from_ ∧ s.from_ < k ∧ (s.to < 0 ∨ (s.from_ < s.to ∧ s.to < k))
  up : S.Pairwise (fun s t => s.from_ < t.from_)
theorem Fine.nil : Fine [] 0 := ⟨fun s hs => by simp at hs, List.Pairwise.nil⟩
theorem Fine.step {S : List Sp} {k : Nat} (h : Fine S k) (e : Ev) (he : nextE S e = 0) : Fine (stepS S k e) (k + 1) := by
  unfold stepS
  split
  · refine ⟨fun s hs => ?_, ?_⟩
    · rcases List.mem_append.1 hs with hs | hs
      · have := h.at_ s hs
        omega
      · simp at hs
        subst hs
        simp only [newSp]
        omega
    · rw [List.pairwise_append]
      refine ⟨h.up, by simp, fun a ha b hb => ?_⟩
      simp at hb
      subst hb
      exact (h.at_ a ha).2.1
  · refine ⟨fun s hs => ?_, ?_⟩
    · obtain ⟨x, hx, rfl⟩ := List.mem_map.1 hs
      have := h.at_ x hx
      unfold closeSp
      split
      · simp only
        omega
      · omega
    · rw [List.pairwise_map]
      refine h.up.imp fun {a b} hab => ?_
      have e1 : ∀ s : Sp, (closeSp k e s).from_ = s.from_ := fun s => by unfold closeSp; split <;> rfl
      rw [e1, e1]
      exact hab
theorem Fine.walk : ∀ (l : List Ev) (k : Nat) (S : List Sp), Fine S k → ∃ k', k' ≤ k + l.length ∧ Fine (walkS l k S).1 k'
  | [], k, S, h => ⟨k, by simp, h⟩
  | e :: l, k, S, h => by
    unfold walkS
    split
    · rename_i he
      obtain ⟨k', h1, h2⟩ := Fine.walk l (k + 1) _ (h.step e he)
      exact ⟨k', by simp; omega, h2⟩
    · exact ⟨k, by omega, h⟩
theorem walkS_len : ∀ (l : List Ev) (k : Nat) (S : List Sp), (walkS l k S).1.length ≤ S.length + l.length
  | [], k, S => by simp [walkS]
  | e :: l, k, S => by
    unfold walkS
    split
    · have := walkS_len l (k + 1) (stepS S k e)
      have := stepS_len S k e
      simp
      omega
    · simp
def upN (n : Nat) : List Int := (List.range n).map (fun (j : Nat) => (j : Int))
theorem upN_len (n : Nat) : (upN n).length = n := by simp [upN]
theorem upN_get {n i : Nat} (h : i < n) : (upN n)[i]? = some (i : Int) := by simp [upN, h]
theorem upN_getD {n i : Nat} (h : i < n) : (upN n).getD i 0 = (i : Int) := by rw [List.getD_eq_getElem?_getD, upN_get h]; rfl
theorem upN_succ (n : Nat) : upN (n + 1) = upN n ++ [(n : Int)] := by simp [upN, List.range_succ]
theorem mem_take_upN {n i : Nat} (hi : i ≤ n) {x : Int} : x ∈ (upN n).take i ↔ 0 ≤ x ∧ x < i := by
  unfold upN
  rw [← List.map_take, List.take_range, Nat.min_eq_left hi]
  simp only [List.mem_map, List.mem_range]
  constructor
  · rintro ⟨j, hj, rfl⟩
    omega
  · rintro ⟨h1, h2⟩
    exact ⟨x.toNat, by omega, by omega⟩
theorem befB_up {S : List Sp} {k : Nat} (h : Fine S k) {i j : Nat} (hj : j < S.length) (hi : i ≤ j) : befB (S.getD j default) (S.getD i default) = false := by
  have e1 : S.getD j default = S[j] := by rw [List.getD_eq_getElem?_getD, List.getElem?_eq_getElem hj]; rfl
  have e2 : S.getD i default = S[i] := by rw [List.getD_eq_getElem?_getD, List.getElem?_eq_getElem (by omega)]; rfl
  rw [e1, e2]
  have h1 := h.at_ S[j] (List.getElem_mem _)
  have h2 : S[i].from_ ≤ S[j].from_ := by
    rcases Nat.lt_or_ge i j with h3 | h3
    · exact Int.le_of_lt ((List.pairwise_iff_getElem.1 h.up) i j (by omega) hj h3)
    · have : i = j := by omega
      subst this
      exact Int.le_refl _
  unfold befB opens
  rw [Bool.and_eq_false_iff, Bool.not_eq_false', decide_eq_true_eq, decide_eq_false_iff_not]
  omega
theorem resp_up {S : List Sp} {k : Nat} (h : Fine S k) : respB S (upN S.length) = true := by
  rw [respB_good]
  · rw [upN_len]; simp
  · intro i hi
    rw [upN_len] at hi
    unfold respOK
    rw [upN_getD hi]
    simp only [Bool.and_eq_true, decide_eq_true_eq, Bool.not_eq_true', List.any_eq_false]
    refine ⟨by omega, by omega, ?_, fun x hx => ?_⟩
    · cases hc : ((upN S.length).take i).contains (i : Int) with
      | false => rfl
      | true =>
        have := (mem_take_upN (by omega)).1 (List.contains_iff_mem.1 hc)
        omega
    · obtain ⟨h1, h2⟩ := (mem_take_upN (by omega)).1 hx
      rw [Int.toNat_natCast, befB_up h hi (by omega)]
      simp
theorem befB_both {S : List Sp} {k : Nat} (h : Fine S k) {i j : Nat} (hi : i < S.length) (hj : j < S.length) : (befB (S.getD i default) (S.getD j default) && befB (S.getD j default) (S.getD i default)) = false := by
  rcases Nat.le_total i j with h1 | h1
  · rw [befB_up h hj h1, Bool.and_false]
  · rw [befB_up h hi h1, Bool.false_and]
theorem resp_01 (s t : Sp) : respB [s, t] [0, 1] = !befB t s := by
  simp [respB, List.range_succ, respOK]
theorem resp_10 (s t : Sp) : respB [s, t] [1, 0] = !befB s t := by
  simp [respB, List.range_succ, respOK]
theorem resp_twice {S : List Sp} (h : 2 ≤ S.length) : respB S ((upN S.length).drop 1 ++ [1]) = false := by
  refine respB_bad (i := S.length - 1) (by simp [upN_len]) ?_
  have e0 : ((upN S.length).drop 1).length = S.length - 1 := by simp [upN_len]
  unfold respOK
  have e1 : ((upN S.length).drop 1 ++ [(1 : Int)]).getD (S.length - 1) 0 = 1 := by
    rw [List.getD_eq_getElem?_getD, List.getElem?_append_right (by omega), e0]
    simp
  rw [e1]
  have e2 : (((upN S.length).drop 1 ++ [(1 : Int)]).take (S.length - 1)).contains 1 = true := by
    rw [List.contains_iff_mem, List.take_append_of_le_length (by omega), List.take_of_length_le (by omega)]
    refine List.mem_iff_getElem?.2 ⟨0, ?_⟩
    rw [List.getElem?_drop, upN_get (by omega)]
    rfl
  rw [e2]
  simp
/-- Append of one to the end of a list of the call's own. -/
theorem run_append_mid {P : Program} {w : World} {e : TypeId} {rs : List Res} {g n c k : Nat} {xs : List Value} (hS : Sep w (vec e 1 (.slice (some ⟨g, 0, none⟩) n c) n xs :: rs)) (hk : k ≤ n) (t ty : TypeId)
    (i : TypeInfo) (z : Value) (bytes : Nat) (ht : P.underlying t = some (.slice e)) (hi : P.info? e = some i) (hz : i.zero = some z)
    (hsize : i.size = 1) (hby : i.bytes = bytes) (hzs : z.cells.size = 1) (ad : Addr) (c1 : Nat) (x : Value) (hx : w.cell? ad = some x) (h1 : x.oneCell' = true)
    (h63 : n + 1 ≤ maxLen) (hbytes : (n + 1) * bytes ≤ 140737488355328) :
    ∃ (v' : Value) (w' : World), (Builtin.append_ #[t, t] ty #[.slice (some ⟨g, k, none⟩) (n - k) (c - k), .slice (some ad) 1 c1]).run P w = .ok v' w' ∧ Sep w' rs ∧ RL w' v' 1 (n - k + 1) (xs.drop k ++ [x]) ∧ ∀ j, j < n → w'.cell? ⟨g, j, none⟩ = w.cell? ⟨g, j, none⟩ := by
  have hxl := hS.gvec.1
  obtain ⟨cur, hB, hnc, hcm, hcs, htk⟩ := hS.vec_blk
  rw [Nat.mul_one] at hxl hcs htk
  have hnews : ∀ j u, [x][j]? = some u → w.cell? (ad.add j) = some u := by
    intro j u hu
    cases j with
    | zero => simp at hu; subst hu; exact hx
    | succ j => simp at hu
  have hone : ∀ u ∈ [x], u.oneCell' = true := by
    intro u hu
    simp at hu
    subst hu
    exact h1
  have hxc : ∀ j u, xs[j]? = some u → w.cell? ⟨g, j, none⟩ = some u := fun j u hu => by
    rw [hB.gblk.cell j, ← Array.getElem?_toList]
    rw [← htk, List.getElem?_take] at hu
    split at hu
    · exact hu
    · cases hu
  by_cases hr : n - k + 1 ≤ c - k
  · have hlt : n < cur.size := by omega
    have hrun := run_append_room_cells (P := P) w t ty e i ht hi g k (n - k) (c - k) ad 1 c1 [x] (by rw [hsize]; rfl) hnews hone hr
      (fun j hj => by
        rw [hB.gblk.cell, hsize]
        simp at hj
        subst hj
        rw [Array.getElem?_eq_getElem (by omega)]
        rfl)
      (fun j hj => hB.gblk.frozen _)
    have haddr : k + (n - k) * i.size = n := by rw [hsize]; omega
    rw [haddr] at hrun
    have hset : w.setCells g n [x] = w.setCell ⟨g, n, none⟩ x := rfl
    rw [hset] at hrun
    have hB2 := hB.set n x
    refine ⟨_, _, hrun, hB2.tail, ⟨by simp [hxl], _, _, rfl, hr, (fun h => by cases h), fun _ => ⟨g, k, rfl, hB2.gblk.lt, fun j u hu => ?_⟩⟩, fun j hj => by rw [hB2.gblk.cell, hB.gblk.cell, Array.getElem?_setIfInBounds_ne (by omega)]⟩
    rw [hB2.gblk.cell]
    rcases Nat.lt_or_ge j (n - k) with h2 | h2
    · rw [List.getElem?_append_left (by simp [hxl]; omega), List.getElem?_drop] at hu
      have := hxc _ _ hu
      rw [hB.gblk.cell] at this
      rw [Array.getElem?_setIfInBounds_ne (by omega)]
      exact this
    · rw [List.getElem?_append_right (by simp [hxl]; omega)] at hu
      have h3 : j = n - k := by
        have := (List.getElem?_eq_some_iff.1 hu).1
        simp [hxl] at this
        omega
      subst h3
      simp [hxl] at hu
      subst hu
      rw [show k + (n - k) = n by omega, Array.getElem?_setIfInBounds_self]
      simp [hlt]
  · obtain ⟨v', w', hrun, ho, hg⟩ := run_append_arg_grows (P := P) w t ty e i z 1 bytes ht hi hz hsize hby hzs (by decide) ⟨g, k, none⟩ (n - k) (c - k) (xs.drop k) (by simp [hxl])
      (fun j u hu => by
        rw [List.getElem?_drop] at hu
        rw [Addr.add_lit]
        exact hxc _ _ hu) ad 1 c1 [x] rfl hnews (by omega) (by omega) (Nat.le_trans (Nat.mul_le_mul_right _ (by omega)) hbytes)
    exact ⟨v', w', hrun, hS.tail.kept (Keeps.grown hg (fun k h => by cases h)), RL.of_own ho, fun j hj => Below.cell (p := ⟨g, j, none⟩) (show Below w.heap.size w w' from ⟨hg.os, hg.tape, hg.output, hg.size, fun k hk => hg.block k hk (by simp)⟩) hB.gblk.lt⟩
end Go.Proofs.YtechagciefhpbaaDoor
