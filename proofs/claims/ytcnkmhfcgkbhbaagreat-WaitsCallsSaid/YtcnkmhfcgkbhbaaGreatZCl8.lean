/-
  Contracts and plain laws that the walk leans on, part 8. No condition.
-/
import Derived.Test.YtcnkmhfcgkbhbaaGreatZCl7
namespace Go.Proofs.YtcnkmhfcgkbhbaaGreat
open Go.RowKit
theorem cpI_props (l : List Int) (hs : l.Pairwise (· ≤ ·)) : ∀ m, m ≤ l.length → (∀ e, e ∈ Lib.compactUpTo l.toArray m ↔ e ∈ l.take m) ∧ (Lib.compactUpTo l.toArray m).Pairwise (· < ·)
  | 0, _ => by simp [Lib.compactUpTo]
  | m + 1, hm => by
    obtain ⟨h1, h2⟩ := cpI_props l hs m (by omega)
    have hg : l.toArray[m]! = l[m] := by simp [show m < l.length by omega]
    have htk : l.take (m + 1) = l.take m ++ [l[m]] := List.take_succ_eq_append_getElem (by omega)
    have hle : ∀ i, ∀ h : i < m, l[i]'(by omega) ≤ l[m]'(by omega) := fun i h => List.pairwise_iff_getElem.1 hs i m (by omega) (by omega) h
    rw [Lib.compactUpTo_succ, htk, hg]
    cases hk : Lib.keeps l.toArray m with
    | false =>
      simp only [Bool.false_eq_true, if_false, List.append_nil]
      refine ⟨fun e => ?_, h2⟩
      rw [h1, List.mem_append, List.mem_singleton]
      refine ⟨.inl, fun h => h.elim id fun h => ?_⟩
      subst h
      cases m with
      | zero => simp [Lib.keeps] at hk
      | succ p =>
        have hp : l.toArray[p]! = l[p] := by simp [show p < l.length by omega]
        have he : l[p + 1] = l[p] := by
          unfold Lib.keeps at hk
          rw [Nat.add_sub_cancel, hg, hp] at hk
          simpa using hk
        rw [he]
        exact List.mem_take_iff_getElem.2 ⟨p, by omega, rfl⟩
    | true =>
      simp only [if_true]
      refine ⟨fun e => by rw [List.mem_append, List.mem_append, h1], ?_⟩
      rw [List.pairwise_append]
      refine ⟨h2, List.pairwise_singleton _ _, fun x hx y hy => ?_⟩
      rw [List.mem_singleton] at hy
      subst hy
      rw [h1] at hx
      obtain ⟨i, hi, rfl⟩ := List.mem_take_iff_getElem.1 hx
      have hi2 : i < m := by omega
      have hxm := hle i hi2
      have hne : l[i]'(by omega) ≠ l[m]'(by omega) := by
        intro heq
        cases m with
        | zero => omega
        | succ p =>
          have hp : l.toArray[p]! = l[p] := by simp [show p < l.length by omega]
          have hd : l[p + 1] ≠ l[p] := by
            unfold Lib.keeps at hk
            rw [Nat.add_sub_cancel, hg, hp] at hk
            simpa using hk
          have h3 : l[i]'(by omega) ≤ l[p]'(by omega) := by
            by_cases hip : i = p
            · subst hip
              exact Int.le_refl _
            · exact List.pairwise_iff_getElem.1 hs i p (by omega) (by omega) (by omega)
          have h4 : l[p]'(by omega) ≤ l[p + 1]'(by omega) := hle p (by omega)
          rw [heq] at h3
          exact hd (Int.le_antisymm h3 h4)
      omega
theorem srtI_pw (xs : List Int) : (xs.mergeSort fun a b => decide (a ≤ b)).Pairwise (· ≤ ·) := by
  have := List.pairwise_mergeSort (le := fun a b : Int => decide (a ≤ b)) (fun a b c h1 h2 => by simp at *; omega) (fun a b => by simp; omega) xs
  exact this.imp (fun {a b} h => by simpa using h)
theorem nrm_mem (xs : List Int) (x : Int) : x ∈ nrm xs ↔ x ∈ xs := by
  have h := (cpI_props _ (srtI_pw xs) _ (Nat.le_refl _)).1 x
  rw [List.take_length] at h
  exact h.trans (List.mergeSort_perm xs _).mem_iff
theorem nrm_pw (xs : List Int) : (nrm xs).Pairwise (· < ·) := (cpI_props _ (srtI_pw xs) _ (Nat.le_refl _)).2
/-- Strict order and members make a list. -/
theorem ltI_uniq : ∀ (l l' : List Int), l.Pairwise (· < ·) → l'.Pairwise (· < ·) → (∀ e, e ∈ l ↔ e ∈ l') → l = l'
  | [], [], _, _, _ => rfl
  | [], y :: l', _, _, h => by simpa using (h y)
  | x :: l, [], _, _, h => by simpa using (h x)
  | x :: l, y :: l', h1, h2, h => by
    rw [List.pairwise_cons] at h1 h2
    have hx := (h x).1 (by simp)
    have hy := (h y).2 (by simp)
    rw [List.mem_cons] at hx hy
    have e : x = y := by
      rcases hx with hx | hx
      · exact hx
      · rcases hy with hy | hy
        · exact hy.symm
        · have a := h2.1 x hx
          have b := h1.1 y hy
          omega
    subst e
    congr 1
    refine ltI_uniq l l' h1.2 h2.2 fun e => ?_
    have he := h e
    rw [List.mem_cons, List.mem_cons] at he
    constructor
    · intro hm
      rcases he.1 (.inr hm) with rfl | h3
      · exact absurd (h1.1 _ hm) (by omega)
      · exact h3
    · intro hm
      rcases he.2 (.inr hm) with rfl | h3
      · exact absurd (h2.1 _ hm) (by omega)
      · exact h3
/-- A number into rising ones, once. -/
def kI (l : List Int) (x : Int) : Nat := l.findIdx fun y => !decide (y < x)
def putI (l : List Int) (x : Int) : List Int := if l[kI l x]? = some x then l else l.take (kI l x) ++ [x] ++ l.drop (kI l x)
theorem kI_le (l : List Int) (x : Int) : kI l x ≤ l.length := List.findIdx_le_length
theorem kI_low (l : List Int) (x : Int) (j : Nat) (h : j < kI l x) : l.getD j 0 < x := by
  have hl := kI_le l x
  have h1 := List.not_of_lt_findIdx (p := fun y => !decide (y < x)) (xs := l) (i := j) h
  simp at h1
  simpa [List.getD, show j < l.length by omega] using h1
theorem kI_eq (l : List Int) (x : Int) (k : Nat) (hk : k ≤ l.length) (h1 : ∀ j, j < k → l.getD j 0 < x) (h2 : k < l.length → ¬ l.getD k 0 < x) : kI l x = k := by
  rcases Nat.lt_trichotomy (kI l x) k with h | h | h
  · have h3 := h1 _ h
    have hl : kI l x < l.length := by omega
    have h4 := List.findIdx_getElem (p := fun y => !decide (y < x)) (xs := l) (w := hl)
    simp at h4
    have e : l.getD (kI l x) 0 = l[kI l x] := by simp [List.getD, hl]
    rw [e] at h3
    unfold kI at h3
    omega
  · exact h
  · have := kI_low l x k h
    have hl := kI_le l x
    exact absurd this (h2 (by omega))
theorem putI_mem (l : List Int) (x y : Int) : y ∈ putI l x ↔ y ∈ l ∨ y = x := by
  unfold putI
  split
  · rename_i h
    refine ⟨.inl, fun h2 => h2.elim id fun h2 => ?_⟩
    rw [h2]
    exact List.mem_of_getElem? h
  · rw [List.mem_append, List.mem_append, List.mem_singleton]
    have : y ∈ l ↔ y ∈ l.take (kI l x) ∨ y ∈ l.drop (kI l x) := by rw [← List.mem_append, List.take_append_drop]
    rw [this]
    constructor
    · rintro ((h | h) | h)
      · exact .inl (.inl h)
      · exact .inr h
      · exact .inl (.inr h)
    · rintro ((h | h) | h)
      · exact .inl (.inl h)
      · exact .inr h
      · exact .inl (.inr h)
theorem putI_pw (l : List Int) (x : Int) (h : l.Pairwise (· < ·)) : (putI l x).Pairwise (· < ·) := by
  unfold putI
  split
  · exact h
  · rename_i hne
    have hk := kI_le l x
    have hlow : ∀ y ∈ l.take (kI l x), y < x := by
      intro y hy
      obtain ⟨i, hi, rfl⟩ := List.mem_take_iff_getElem.1 hy
      have := kI_low l x i (by omega)
      simpa [List.getD, show i < l.length by omega] using this
    have hhigh : ∀ y ∈ l.drop (kI l x), x < y := by
      intro y hy
      have hlt : kI l x < l.length := by
        rcases Nat.lt_or_ge (kI l x) l.length with h1 | h1
        · exact h1
        · rw [List.drop_eq_nil_of_le h1] at hy
          simp at hy
      have h4 := List.findIdx_getElem (p := fun y => !decide (y < x)) (xs := l) (w := hlt)
      simp at h4
      have h5 : l[kI l x] ≠ x := fun e => hne (by rw [List.getElem?_eq_getElem hlt, e])
      have h6 : x < l[kI l x] := by
        unfold kI at h5 ⊢
        omega
      obtain ⟨j, hj, rfl⟩ := List.mem_drop_iff_getElem.1 hy
      rcases Nat.eq_zero_or_pos j with rfl | hj0
      · simpa using h6
      · have := List.pairwise_iff_getElem.1 h (kI l x) (kI l x + j) hlt (by omega) (by omega)
        omega
    rw [List.append_assoc, List.pairwise_append]
    refine ⟨h.take, ?_, ?_⟩
    · rw [List.singleton_append, List.pairwise_cons]
      exact ⟨hhigh, h.drop⟩
    · intro a ha b hb
      have h1 := hlow a ha
      rw [List.singleton_append, List.mem_cons] at hb
      rcases hb with rfl | hb
      · exact h1
      · have := hhigh b hb
        omega
theorem putI_fold (L O : List Int) (h : O.Pairwise (· < ·)) : (L.foldl putI O).Pairwise (· < ·) ∧ ∀ x, x ∈ L.foldl putI O ↔ x ∈ O ∨ x ∈ L := by
  induction L generalizing O with
  | nil => exact ⟨h, by simp⟩
  | cons e l ih =>
    obtain ⟨h1, h2⟩ := ih (putI O e) (putI_pw O e h)
    refine ⟨h1, fun x => ?_⟩
    rw [List.foldl_cons, h2, putI_mem, List.mem_cons, or_assoc]
theorem putI_nrm (L : List Int) : L.foldl putI [] = nrm L := by
  obtain ⟨h1, h2⟩ := putI_fold L [] (by simp)
  exact ltI_uniq _ _ h1 (nrm_pw L) fun x => by rw [h2, nrm_mem]; simp
theorem putI_len (l : List Int) (x : Int) : (putI l x).length ≤ l.length + 1 := by
  unfold putI
  split
  · omega
  · simp only [List.length_append, List.length_take, List.length_drop, List.length_cons, List.length_nil]
    have := kI_le l x
    omega
end Go.Proofs.YtcnkmhfcgkbhbaaGreat
namespace Go.Proofs.YtcnkmhfcgkbhbaaGreat
open Go.RowKit
theorem fresh_int (w : World) : Sep (w.alloc (.cells #[] 3)) [vec 3 1 (.slice (some ⟨w.heap.size, 0, none⟩) 0 0) 0 [], old w] :=
  (Sep.start w).vec_new (World.ownsRow_made w #[] 0 (Nat.le_refl _) (Nat.zero_le _) rfl) ((Below.refl _ _).alloc (Nat.le_refl _) _)
theorem src_takeI {w : World} {g n c k : Nat} {O : List Int} {rs : List Res} (h : Sep w (vec 3 1 (.slice (some ⟨g, 0, none⟩) n c) n (O.map (Value.int .i64)) :: rs)) (hn : O.length = n) (hk : k ≤ n) : SrcA w 1 (.slice (some ⟨g, 0, none⟩) k c) k ((O.take k).map (Value.int .i64)) := by
  refine .inr ⟨_, _, rfl, by simp; omega, fun j u hj => ?_⟩
  rw [Addr.add_lit, Nat.zero_add]
  rw [List.map_take, List.getElem?_take] at hj
  split at hj
  · exact (h.vec_cell hj).1
  · cases hj
theorem src_dropI {w : World} {g n c k c' : Nat} {O : List Int} {rs : List Res} (h : Sep w (vec 3 1 (.slice (some ⟨g, 0, none⟩) n c) n (O.map (Value.int .i64)) :: rs)) (hn : O.length = n) : SrcA w 1 (.slice (some ⟨g, k, none⟩) (n - k) c') (n - k) ((O.drop k).map (Value.int .i64)) := by
  refine .inr ⟨_, _, rfl, by simp; omega, fun j u hj => ?_⟩
  rw [Addr.add_lit]
  rw [List.map_drop, List.getElem?_drop] at hj
  exact (h.vec_cell hj).1
theorem ints_one (O : List Int) : ∀ u ∈ O.map (Value.int .i64), u.oneCell' = true := by
  intro u hu
  obtain ⟨x, _, rfl⟩ := List.mem_map.1 hu
  rfl
theorem putI_new (L : List Int) (x : Int) (k : Nat) (hk : k ≤ L.length) (h1 : ∀ j, j < k → L.getD j 0 < x) (h2 : k < L.length → ¬ L.getD k 0 < x ∧ ¬ L.getD k 0 = x) : putI L x = L.take k ++ [x] ++ L.drop k := by
  have e := kI_eq L x k hk h1 (fun h => (h2 h).1)
  unfold putI
  rw [e, if_neg]
  intro h
  obtain ⟨h3, h4⟩ := List.getElem?_eq_some_iff.1 h
  exact (h2 h3).2 (by simpa [List.getD, h3] using h4)
theorem putI_old (L : List Int) (x : Int) (k : Nat) (hk : k < L.length) (h1 : ∀ j, j < k → L.getD j 0 < x) (h2 : L.getD k 0 = x) : putI L x = L := by
  have e := kI_eq L x k (by omega) h1 (fun h => by omega)
  unfold putI
  rw [e, if_pos]
  rw [List.getElem?_eq_getElem hk]
  simpa [List.getD, hk] using h2
set_option maxHeartbeats 8000000 in
set_option maxRecDepth 100000 in
theorem putR_any (a : Option Addr) (n c : Nat) (L : List Int) (x : Int) (w : World) (rs : List Res) (hS0 : Sep w (vec 3 1 (.slice a n c) n (L.map (Value.int .i64)) :: rs)) (hLn : L.length = n) (hn : n ≤ 100000) (hnil : n = 0 → a = none ∧ c = 0) :
    Calls Tryz.prog 32 #[.slice a n c, .int .i64 x] w fun e w' => ∃ a' c', e = .returned (.slice a' (putI L x).length c') ∧ Sep w' (vec 3 1 (.slice a' (putI L x).length c') (putI L x).length ((putI L x).map (Value.int .i64)) :: rs) ∧ 0 < (putI L x).length := by
  have hS := Lib.hid hS0
  obtain ⟨i0, hi0, hz0, hz1, hz2⟩ := info_parts info_intE
  have hio := Lib.hid ints_one
  have hcl : n ≤ c := by
    rcases Nat.eq_zero_or_pos n with h | h
    · omega
    · rcases hS0.gvec.2 with ⟨_, h0⟩ | ⟨g, cap, cur, hv, _, _, hnc, _⟩
      · omega
      · injection hv with _ _ e; omega
  rcases Nat.eq_zero_or_pos n with h0 | h0
  · subst h0
    obtain ⟨rfl, rfl⟩ := hnil rfl
    obtain rfl := List.eq_nil_of_length_eq_zero hLn
    rw [show putI [] x = [x] from rfl]
    clear hS0 hnil hcl
    go_enter Tryz.func32, Tryz.ntmps32
    go_wp2_with fail
    go_loopg [5] 0 (fun gm s5 W => gm = 0 ∧ s5 = .int .i64 0 ∧ W = w)
    case atStart => exact ⟨rfl, rfl, rfl⟩
    case round =>
      obtain ⟨rfl, rfl, rfl⟩ := hrel
      go_wp2_with (at_builtin; first | (refine wpList_append_sep ((fresh_int _).graft hS.out) rfl _ _ 25 rfl i0 (.int .i64 0) 8 Tryz.underlying25 hi0 hz0 hz1 hz2 rfl (by decide) rfl 0 [] (.inl ⟨rfl, rfl, rfl⟩) (by simp) (by simp only [maxLen]; omega) (by omega) ?_; intro na1 nc1 w4 q4; replace q4 := Lib.hid q4) | (refine wpList_append_sep (q4.out.allocG _) rfl _ _ 25 rfl i0 (.int .i64 0) 8 Tryz.underlying25 hi0 hz0 hz1 hz2 rfl (by decide) rfl 1 [.int .i64 x] (SrcA.one _ _ _ _) (by simp [Value.oneCell']) (by simp only [maxLen]; omega) (by omega) ?_; intro na2 nc2 w5 q5; replace q5 := Lib.hid q5) | (refine wpList_append_sep q5.out rfl _ _ 25 rfl i0 (.int .i64 0) 8 Tryz.underlying25 hi0 hz0 hz1 hz2 rfl (by decide) rfl 0 [] (.inl ⟨rfl, rfl, rfl⟩) (by simp) (by simp only [maxLen]; omega) (by omega) ?_; intro na3 nc3 w6 q6; replace q6 := Lib.hid q6))
      go_ret
      exact ⟨na3, nc3, rfl, q6.out.drop1, by simp⟩
  · obtain ⟨g, rfl⟩ : ∃ g, a = some ⟨g, 0, none⟩ := by
      rcases hS0.gvec.2 with ⟨_, h1⟩ | ⟨g, cap, cur, hv, _⟩
      · omega
      · injection hv with e1 _ _
        exact ⟨g, e1⟩
    have hnew := Lib.hid (putI_new L x)
    have hold := Lib.hid (putI_old L x)
    have hcell := Lib.hid (fun k (hk : k < n) => show w.cell? ⟨g, k, none⟩ = some (.int .i64 (L.getD k 0)) from (hS0.vec_cell (by rw [List.getElem?_map, List.getElem?_eq_getElem (show k < L.length by omega)]; simp [List.getD, show k < L.length by omega])).1)
    have hgl := (hS0.vec_cell (k := 0) (u := .int .i64 (L.getD 0 0)) (by rw [List.getElem?_map, List.getElem?_eq_getElem (show 0 < L.length by omega)]; simp [List.getD, show 0 < L.length by omega])).2.2
    have hTk := Lib.hid (show L.take n = L by rw [← hLn, List.take_length])
    have hDk := Lib.hid (show L.drop n = [] by rw [← hLn, List.drop_length])
    rw [hLn] at hnew hold
    replace hLn := Lib.hid hLn
    clear hS0 hnil
    go_enter Tryz.func32, Tryz.ntmps32
    go_wp2_with fail
    go_loopg [5] n (fun gm s5 W => ∃ k : Nat, k ≤ n ∧ gm = n - k ∧ s5 = .int .i64 k ∧ Hid (∀ j, j < k → L.getD j 0 < x) ∧ W = w)
    case atStart => exact ⟨0, Nat.zero_le _, rfl, rfl, Lib.hid (fun j h => absurd h (by omega)), rfl⟩
    case round =>
      obtain ⟨k, hk, hgm, rfl, hlow, rfl⟩ := hrel
      by_cases hlt : k < n
      · have z := hcell.out k hlt
        have hnw := Lib.hid (hnew.out k hk hlow.out)
        have hod := Lib.hid (hold.out k hlt hlow.out)
        have hlow2 := Lib.hid (fun (h : L.getD k 0 < x) j (hj : j < k + 1) => show L.getD j 0 < x from by
          rcases Nat.lt_or_ge j k with h1 | h1
          · exact hlow.out j h1
          · obtain rfl : j = k := by omega
            exact h)
        generalize L.getD k 0 = y at *
        have i1 : (0 : Int) ≤ (k : Int) := by omega
        have i2 : (k : Int) < (n : Int) := by omega
        by_cases hyx : y < x
        · have e1 : decide (y < x) = true := decide_eq_true hyx
          replace hlow2 := Lib.hid (hlow2.out hyx)
          go_wp2_with fail
          go_roundg (n - (k + 1))
          case measure => omega
          case rel => exact ⟨k + 1, by omega, rfl, by go_num, hlow2, rfl⟩
        · have e1 : decide (y < x) = false := decide_eq_false hyx
          by_cases hye : y = x
          · subst hye
            replace hod := Lib.hid (hod.out rfl)
            go_wp2_with fail
            go_ret
            exact ⟨some ⟨g, 0, none⟩, c, by rw [hod.out, hLn.out]; rfl, by rw [hod.out, hLn.out]; exact hS.out, by rw [hod.out, hLn.out]; exact h0⟩
          · have e2 : (y == x) = false := by simpa using hye
            replace hnw := Lib.hid (hnw.out (fun _ => ⟨by omega, hye⟩))
            have hkc : ¬ c = k := by omega
            have hkc2 : k ≤ c := by omega
            clear hod hlow2
            go_wp2_with (at_builtin; first | (refine wpList_append_sep ((fresh_int _).graft hS.out) rfl _ _ 25 rfl i0 (.int .i64 0) 8 Tryz.underlying25 hi0 hz0 hz1 hz2 rfl (by decide) rfl k ((L.take k).map (Value.int .i64)) (src_takeI ((fresh_int _).graft hS.out).to1 hLn.out hk) (hio.out _) (by simp only [maxLen]; omega) (by omega) ?_; intro na1 nc1 w4 q4; simp only [Nat.zero_add, List.nil_append] at q4; replace q4 := Lib.hid q4) | (refine wpList_append_sep (q4.out.allocG _) rfl _ _ 25 rfl i0 (.int .i64 0) 8 Tryz.underlying25 hi0 hz0 hz1 hz2 rfl (by decide) rfl 1 [.int .i64 x] (SrcA.one _ _ _ _) (by simp [Value.oneCell']) (by simp only [maxLen]; omega) (by omega) ?_; intro na2 nc2 w5 q5; replace q5 := Lib.hid q5) | (refine wpList_append_sep q5.out rfl _ _ 25 rfl i0 (.int .i64 0) 8 Tryz.underlying25 hi0 hz0 hz1 hz2 rfl (by decide) rfl (n - k) ((L.drop k).map (Value.int .i64)) (src_dropI q5.out.to1 hLn.out) (hio.out _) (by simp only [maxLen]; omega) (by omega) ?_; intro na3 nc3 w6 q6; replace q6 := Lib.hid q6))
            go_ret
            have hl2 : (putI L x).length = k + 1 + (n - k) := by rw [hnw.out]; simp [hLn.out]; omega
            rw [hl2]
            exact ⟨na3, nc3, rfl, by rw [hnw.out, List.map_append, List.map_append]; exact q6.out.drop1, by omega⟩
      · obtain rfl : k = n := by omega
        have hnw := Lib.hid (hnew.out k hk hlow.out (fun h => absurd h (by omega)))
        have hl2 : (putI L x).length = k + 1 := by rw [hnw.out, hTk.out, hDk.out]; simp [hLn.out]
        have hkc2 : k ≤ c := hcl
        have hk3 : ¬ (k : Int) = 0 := by omega
        by_cases hcc : c = k
        · subst hcc
          go_wp2_with (at_builtin; first | (refine wpList_append_sep ((fresh_int _).graft hS.out) rfl _ _ 25 rfl i0 (.int .i64 0) 8 Tryz.underlying25 hi0 hz0 hz1 hz2 rfl (by decide) rfl c ((L.take c).map (Value.int .i64)) (src_takeI ((fresh_int _).graft hS.out).to1 hLn.out (Nat.le_refl _)) (hio.out _) (by simp only [maxLen]; omega) (by omega) ?_; intro na1 nc1 w4 q4; simp only [Nat.zero_add, List.nil_append] at q4; replace q4 := Lib.hid q4) | (refine wpList_append_sep (q4.out.allocG _) rfl _ _ 25 rfl i0 (.int .i64 0) 8 Tryz.underlying25 hi0 hz0 hz1 hz2 rfl (by decide) rfl 1 [.int .i64 x] (SrcA.one _ _ _ _) (by simp [Value.oneCell']) (by simp only [maxLen]; omega) (by omega) ?_; intro na2 nc2 w5 q5; replace q5 := Lib.hid q5) | (refine wpList_append_sep q5.out rfl _ _ 25 rfl i0 (.int .i64 0) 8 Tryz.underlying25 hi0 hz0 hz1 hz2 rfl (by decide) rfl 0 [] (.inr ⟨_, _, rfl, rfl, fun j u hj => by simp at hj⟩) (by simp) (by simp only [maxLen]; omega) (by omega) ?_; intro na3 nc3 w6 q6; (try simp only [Nat.add_zero, List.append_nil] at q6); replace q6 := Lib.hid q6))
          go_ret
          rw [hl2]
          exact ⟨na3, nc3, rfl, by rw [hnw.out, hTk.out, hDk.out, List.append_nil, List.map_append]; have h := q6.out.drop1; rw [hTk.out] at h; exact h, by omega⟩
        · go_wp2_with (at_builtin; first | (refine wpList_append_sep ((fresh_int _).graft hS.out) rfl _ _ 25 rfl i0 (.int .i64 0) 8 Tryz.underlying25 hi0 hz0 hz1 hz2 rfl (by decide) rfl k ((L.take k).map (Value.int .i64)) (src_takeI ((fresh_int _).graft hS.out).to1 hLn.out (Nat.le_refl _)) (hio.out _) (by simp only [maxLen]; omega) (by omega) ?_; intro na1 nc1 w4 q4; simp only [Nat.zero_add, List.nil_append] at q4; replace q4 := Lib.hid q4) | (refine wpList_append_sep (q4.out.allocG _) rfl _ _ 25 rfl i0 (.int .i64 0) 8 Tryz.underlying25 hi0 hz0 hz1 hz2 rfl (by decide) rfl 1 [.int .i64 x] (SrcA.one _ _ _ _) (by simp [Value.oneCell']) (by simp only [maxLen]; omega) (by omega) ?_; intro na2 nc2 w5 q5; replace q5 := Lib.hid q5) | (refine wpList_append_sep q5.out rfl _ _ 25 rfl i0 (.int .i64 0) 8 Tryz.underlying25 hi0 hz0 hz1 hz2 rfl (by decide) rfl 0 [] (.inr ⟨_, _, rfl, rfl, fun j u hj => by simp at hj⟩) (by simp) (by simp only [maxLen]; omega) (by omega) ?_; intro na3 nc3 w6 q6; (try simp only [Nat.add_zero, List.append_nil] at q6); replace q6 := Lib.hid q6))
          go_ret
          rw [hl2]
          exact ⟨na3, nc3, rfl, by rw [hnw.out, hTk.out, hDk.out, List.append_nil, List.map_append]; have h := q6.out.drop1; rw [hTk.out] at h; exact h, by omega⟩
end Go.Proofs.YtcnkmhfcgkbhbaaGreat
