/-
  Contracts and plain laws that the walk leans on, part 14. No condition.
-/
import Derived.Test.YtcnkmhfcgkbhbaaZHd13
import Derived.Deep.AppendSrc
namespace Go.Proofs.Ytcnkmhfcgkbhbaa
open Go.RowKit
theorem ck_props (l : List Ed) (hs : l.Pairwise leE) : ∀ m, m ≤ l.length → (∀ e, e ∈ ck l m ↔ e ∈ l.take m) ∧ (ck l m).Pairwise ltE
  | 0, _ => by simp [ck]
  | m + 1, hm => by
    obtain ⟨h1, h2⟩ := ck_props l hs m (by omega)
    have hg : l.getD m default = l[m] := by simp [List.getD, show m < l.length by omega]
    have htk : l.take (m + 1) = l.take m ++ [l[m]] := List.take_succ_eq_append_getElem (by omega)
    have hle : ∀ i, ∀ h : i < m, leE (l[i]'(by omega)) (l[m]'(by omega)) := fun i h => List.pairwise_iff_getElem.1 hs i m (by omega) (by omega) h
    rw [ck_succ, htk, hg]
    cases hk : kp l m with
    | false =>
      simp only [Bool.false_eq_true, if_false, List.append_nil]
      refine ⟨fun e => ?_, h2⟩
      rw [h1, List.mem_append, List.mem_singleton]
      refine ⟨.inl, fun h => h.elim id fun h => ?_⟩
      subst h
      cases m with
      | zero => simp [kp] at hk
      | succ p =>
        have hp : l.getD p default = l[p] := by simp [List.getD, show p < l.length by omega]
        have he : l[p + 1] = l[p] := by
          unfold kp at hk
          rw [Nat.add_sub_cancel, hg, hp] at hk
          simpa using hk
        rw [he]
        exact List.mem_take_iff_getElem.2 ⟨p, by omega, rfl⟩
    | true =>
      simp only [if_true]
      refine ⟨fun e => by rw [List.mem_append, List.mem_append, h1], ?_⟩
      rw [List.pairwise_append]
      refine ⟨h2, List.pairwise_singleton _ _, fun x hx y hy => ?_⟩
      rw [List.mem_singleton] at hy
      subst hy
      rw [h1] at hx
      obtain ⟨i, hi, rfl⟩ := List.mem_take_iff_getElem.1 hx
      have hi2 : i < m := by omega
      have hxm := hle i hi2
      have hne : l[i]'(by omega) ≠ l[m]'(by omega) := by
        intro heq
        cases m with
        | zero => omega
        | succ p =>
          have hp : l.getD p default = l[p] := by simp [List.getD, show p < l.length by omega]
          have hd : l[p + 1] ≠ l[p] := by
            unfold kp at hk
            rw [Nat.add_sub_cancel, hg, hp] at hk
            simpa using hk
          have h3 : leE (l[i]'(by omega)) (l[p]'(by omega)) := by
            by_cases hip : i = p
            · subst hip
              simp [leE]
            · exact List.pairwise_iff_getElem.1 hs i p (by omega) (by omega) (by omega)
          have h4 : leE (l[p]'(by omega)) (l[p + 1]'(by omega)) := hle p (by omega)
          rw [heq] at h3
          exact hd (leE_anti _ _ h3 h4)
      generalize l[i]'(by omega) = x at *
      generalize l[m]'(by omega) = y at *
      obtain ⟨a, b⟩ := x
      obtain ⟨c, d⟩ := y
      simp only [leE, ltE, ne_eq, Ed.mk.injEq] at *
      omega
theorem sdE_mem (L : List Ed) (e : Ed) : e ∈ sdE L ↔ e ∈ L := by
  unfold sdE cpE
  rw [(ck_props (srtE L) (srtE_pw L) _ (Nat.le_refl _)).1 e, List.take_length]
  exact (srtE_perm L).mem_iff
theorem sdE_pw (L : List Ed) : (sdE L).Pairwise ltE := (ck_props (srtE L) (srtE_pw L) _ (Nat.le_refl _)).2
/-- Strict order and members make a list. -/
theorem ltE_uniq : ∀ (l l' : List Ed), l.Pairwise ltE → l'.Pairwise ltE → (∀ e, e ∈ l ↔ e ∈ l') → l = l'
  | [], [], _, _, _ => rfl
  | [], y :: l', _, _, h => by simpa using (h y)
  | x :: l, [], _, _, h => by simpa using (h x)
  | x :: l, y :: l', h1, h2, h => by
    rw [List.pairwise_cons] at h1 h2
    have irr : ∀ e : Ed, ¬ ltE e e := fun e he => by simp [ltE] at he
    have hxy : x = y := by
      rcases List.mem_cons.1 ((h x).1 (List.mem_cons_self ..)) with h3 | h3
      · exact h3
      · rcases List.mem_cons.1 ((h y).2 (List.mem_cons_self ..)) with h4 | h4
        · exact h4.symm
        · have h5 := h2.1 x h3
          have h6 := h1.1 y h4
          simp only [ltE] at h5 h6
          omega
    subst hxy
    congr 1
    refine ltE_uniq l l' h1.2 h2.2 fun e => ⟨fun he => ?_, fun he => ?_⟩
    · rcases List.mem_cons.1 ((h e).1 (List.mem_cons_of_mem _ he)) with h3 | h3
      · subst h3; exact absurd (h1.1 _ he) (irr _)
      · exact h3
    · rcases List.mem_cons.1 ((h e).2 (List.mem_cons_of_mem _ he)) with h3 | h3
      · subst h3; exact absurd (h2.1 _ he) (irr _)
      · exact h3
end Go.Proofs.Ytcnkmhfcgkbhbaa
namespace Go.Proofs.Ytcnkmhfcgkbhbaa
open Go.RowKit
def tailRow (w : World) (e : TypeId) (v : Value) (n : Nat) (xs : List Value) : Prop :=
  xs.length = n ∧ ∃ g k c cur, v = .slice (some ⟨g, k, none⟩) n c ∧ w.heap[g]? = some (.cells cur e (0, 0)) ∧ n ≤ c ∧ c ≤ maxLen ∧ k + c ≤ cur.size ∧ (cur.toList.drop k).take n = xs
def tl (e : TypeId) (v : Value) (n : Nat) (xs : List Value) : Res where
  at_ A w := (∀ b, A b ↔ v.ownBlock = some b) ∧ tailRow w e v n xs
  lt h b hb := by
    obtain ⟨h1, _, g, k, c, cur, rfl, hg, _⟩ := h
    have := (h1 b).1 hb
    simp only [Value.ownBlock, Option.some.injEq] at this
    subst this
    exact (Array.getElem?_eq_some_iff.1 hg).1
  keep {A w w'} h k := by
    obtain ⟨h1, h2, g, kk, c, cur, rfl, hg, rest⟩ := h
    refine ⟨h1, h2, g, kk, c, cur, rfl, ?_, rest⟩
    rw [k.block g (Array.getElem?_eq_some_iff.1 hg).1 ((h1 g).2 rfl)]
    exact hg
section
variable {w w' : World} {e : TypeId} {n : Nat} {v : Value} {xs : List Value} {rs : List Res}
theorem Sep.tl_blk (h : Sep w (tl e v n xs :: rs)) : ∃ g k c cur, v = .slice (some ⟨g, k, none⟩) n c ∧ Sep w (blk g e cur :: rs) ∧ n ≤ c ∧ c ≤ maxLen ∧ k + c ≤ cur.size ∧ (cur.toList.drop k).take n = xs ∧ xs.length = n := by
  obtain ⟨A, ⟨h1, h0, g, k, c, cur, rfl, hg, a1, a2, a3, a4⟩, h2⟩ := h.open_
  exact ⟨g, k, c, cur, rfl, h2 w _ A ⟨fun b => by rw [h1]; simp [Value.ownBlock, eq_comm], hg⟩ (Keeps.refl _ _) (fun _ => .inl), a1, a2, a3, a4, h0⟩
theorem Sep.blk_tl {g k c : Nat} {cur : Array Value} (h : Sep w (blk g e cur :: rs)) (a1 : n ≤ c) (a2 : c ≤ maxLen) (a3 : k + c ≤ cur.size) (a4 : (cur.toList.drop k).take n = xs) :
    Sep w (tl e (.slice (some ⟨g, k, none⟩) n c) n xs :: rs) := by
  obtain ⟨A, h1, h2⟩ := h.open_
  exact h2 w _ A ⟨fun b => by rw [h1.1]; simp [Value.ownBlock, eq_comm], by rw [← a4]; simp; omega, g, k, c, cur, rfl, h1.2, a1, a2, a3, a4⟩ (Keeps.refl _ _) (fun _ => .inl)
/-- The first element, and what is behind it. -/
theorem Sep.tl_head {g k c : Nat} {x : Value} (h : Sep w (tl e (.slice (some ⟨g, k, none⟩) (n + 1) c) (n + 1) (x :: xs) :: rs)) :
    w.cell? ⟨g, k, none⟩ = some x ∧ n + 1 ≤ c ∧ Sep w (tl e (.slice (some ⟨g, k + 1, none⟩) n (c - 1)) n xs :: rs) := by
  obtain ⟨g', k', c', cur, hv, hS, a1, a2, a3, a4, a5⟩ := h.tl_blk
  injection hv with e1 e2 e3
  injection e1 with e1
  injection e1 with e1 e1'
  subst e1 e1' e3
  have hk : cur.toList.drop k = x :: (cur.toList.drop (k + 1)) := by
    have hlt : k < cur.toList.length := by rw [Array.length_toList]; omega
    rw [List.drop_eq_getElem_cons hlt] at a4 ⊢
    rw [List.take_succ_cons] at a4
    injection a4 with b1 b2
    rw [b1]
  refine ⟨?_, a1, hS.blk_tl (by omega) (by omega) (by omega) ?_⟩
  · rw [hS.gblk.cell]
    have := congrArg (fun l : List Value => l[0]?) hk
    simpa [List.getElem?_drop] using this
  · rw [hk, List.take_succ_cons] at a4
    injection a4
theorem run_append_tl {P : Program} (hS : Sep w (tl e v n xs :: rs)) (t ty : TypeId)
    (i : TypeInfo) (z : Value) (bytes : Nat) (ht : P.underlying t = some (.slice e)) (hi : P.info? e = some i) (hz : i.zero = some z)
    (hsize : i.size = 1) (hby : i.bytes = bytes) (hzs : z.cells.size = 1)
    (x u : Value) (hx : SrcA w 1 x 1 [u]) (h1 : u.oneCell' = true)
    (h63 : n + 1 ≤ maxLen) (hbytes : (n + 1) * bytes ≤ 140737488355328) :
    ∃ (a' : Addr) (c' : Nat) (w' : World), (Builtin.append_ #[t, t] ty #[v, x]).run P w = .ok (.slice (some a') (n + 1) c') w' ∧ Sep w' (tl e (.slice (some a') (n + 1) c') (n + 1) (xs ++ [u]) :: rs) := by
  rcases hx with ⟨_, h0, _⟩ | ⟨ad, cx, rfl, hl, hnews⟩
  · cases h0
  have hone : ∀ u' ∈ [u], u'.oneCell' = true := fun u' hu => by rw [List.mem_singleton] at hu; subst hu; exact h1
  have hsrc := Src.ofSlice (P := P) w ht ad 1 cx [u] (size := i.size) (by rw [hsize]; rfl) hnews hone
  obtain ⟨g, k, c, cur, rfl, hB, a1, a2, a3, a4, a5⟩ := hS.tl_blk
  by_cases hroom : n + 1 ≤ c
  · have hr := run_append_room_src (P := P) w t t ty e i ht hi g k n c _ 1 [u] hsrc hroom
      (fun j hj => by rw [hsize, hB.gblk.cell]; simp at hj; subst hj; rw [Array.getElem?_eq_getElem (by omega)]; rfl) (fun j hj => hB.gblk.frozen _)
    refine ⟨_, _, _, hr, ?_⟩
    rw [hsize, Nat.mul_one]
    have hB2 := hB.set (k + n) u
    refine Sep.blk_tl (cur := cur.setIfInBounds (k + n) u) hB2 hroom a2 (by simpa using a3) ?_
    rw [Array.toList_setIfInBounds, List.drop_set]
    rw [if_neg (by omega), show k + n - k = n by omega]
    rw [List.take_succ_eq_append_getElem (by simp; omega), List.take_set_of_le (by omega), a4]
    simp
  · have hold : ∀ j q, xs[j]? = some q → w.cell? ((⟨g, k, none⟩ : Addr).add j) = some q := by
      intro j q hj
      rw [Addr.add_lit, hB.gblk.cell]
      rw [← a4] at hj
      have hjn : j < n := by
        rcases Nat.lt_or_ge j n with h | h
        · exact h
        · rw [List.getElem?_eq_none (by simp; omega)] at hj; cases hj
      rw [List.getElem?_take_of_lt hjn, List.getElem?_drop] at hj
      simpa using hj
    have hn63 : n + 1 ≤ 9223372036854775807 := by simp only [maxLen] at h63; omega
    have hr := run_append_grow_src (P := P) w t t ty e i z ht hi hz (some ⟨g, k, none⟩) n c xs
      (run_firstCells_some w.drew i.size n _ n c xs (by rw [hsize, a5, Nat.mul_one]) (by simpa using hold)) _ 1 [u] hsrc (by omega) (by omega) (growslice_fits (by omega) (by rw [hby]; exact hbytes))
    refine ⟨_, _, _, hr, ?_⟩
    have hge := grownCap_ge w (n + 1) c e
    have hcm : grownCap w (n + 1) c e ≤ maxLen := grownCap_le_maxLen w (n + 1) c e h63
    refine Sep.blk_tl (hS.tail.drew.alloc _ e) hge hcm ?_ ?_
    · simp [size_zeroCells, hzs, a5]
      omega
    · simp only [List.drop_zero, Array.toList_append]
      exact List.take_left' (by simp [a5])
theorem wpList_append_tl {P : Program} {ops : Array Oper} {rest : List Oper} {o : Oper} {a : Act} {Q : Exit → Act → World → Prop} (hS : Sep w (tl e v n xs :: rs)) (hg : o.guard = none) (s x : Operand) (t : TypeId)
    (ho : o.op = .call { callee := .builtin .append, args := #[s, x], argTypes := #[t, t] })
    (i : TypeInfo) (z : Value) (bytes : Nat) (ht : P.underlying t = some (.slice e)) (hi : P.info? e = some i) (hz : i.zero = some z)
    (hsize : i.size = 1) (hby : i.bytes = bytes) (hzs : z.cells.size = 1)
    (hs : a.eval s = v) (u : Value) (hx : SrcA w 1 (a.eval x) 1 [u]) (h1 : u.oneCell' = true)
    (h63 : n + 1 ≤ maxLen) (hbytes : (n + 1) * bytes ≤ 140737488355328)
    (h : ∀ (a' : Addr) (c' : Nat) w', Sep w' (tl e (.slice (some a') (n + 1) c') (n + 1) (xs ++ [u]) :: rs) → wpList P ops Q rest (a.put o.dst (.slice (some a') (n + 1) c')) w') :
    wpList P ops Q (o :: rest) a w := by
  refine wpList_plain hg fun K hK => ?_
  obtain ⟨a', c', w', hr, hS'⟩ := run_append_tl (P := P) hS t o.type i z bytes ht hi hz hsize hby hzs _ u hx h1 h63 hbytes
  unfold Oper.wp execOp
  simp only [ho, resolve, invoke, builtin, Sem.run_bind, Sem.run_pure, Result.andThen_ok, List.map_toArray, List.map_cons, List.map_nil, hs, hr]
  exact hK _ _ (h a' c' w' hS')
end
end Go.Proofs.Ytcnkmhfcgkbhbaa
namespace Go.Proofs.Ytcnkmhfcgkbhbaa
open Go.RowKit
def addE (R : List (Int × List Int)) (e : Ed) : List (Int × List Int) :=
  match R with
  | [] => [(e.from_, [e.tgt])]
  | (k, xs) :: r => if k = e.from_ then (k, xs ++ [e.tgt]) :: r else (e.from_, [e.tgt]) :: (k, xs) :: r
def nxL (L : List Ed) : List (Int × List Int) := (sdE L).foldl addE []
theorem addE_keys (R : List (Int × List Int)) (e : Ed) : ∀ p ∈ addE R e, p.1 = e.from_ ∨ p ∈ R := by
  intro p hp
  unfold addE at hp
  split at hp
  · simp at hp; exact .inl (by rw [hp])
  · split at hp
    · rename_i h
      rcases List.mem_cons.1 hp with rfl | hp
      · exact .inl h
      · exact .inr (List.mem_cons_of_mem _ hp)
    · rcases List.mem_cons.1 hp with rfl | hp
      · exact .inl rfl
      · exact .inr hp
/-- What has been gone through has no larger keys, and each key once. -/
theorem nx_inv (S : List Ed) (hs : S.Pairwise ltE) : ∀ k (hk : k < S.length), ∀ p ∈ (S.take k).foldl addE [], p.1 ≤ S[k].from_
  | 0, _ => by simp
  | k + 1, hk => by
    intro p hp
    rw [List.take_succ_eq_append_getElem (by omega), List.foldl_append] at hp
    have h1 := List.pairwise_iff_getElem.1 hs k (k + 1) (by omega) hk (by omega)
    have h2 : S[k].from_ ≤ S[k + 1].from_ := by simp only [ltE] at h1; omega
    rcases addE_keys _ _ p hp with h | h
    · rw [h]; exact h2
    · exact Int.le_trans (nx_inv S hs k (by omega) p h) h2
theorem addE_pw {R : List (Int × List Int)} {e : Ed} (h : R.Pairwise (fun p q => q.1 < p.1)) (hle : ∀ p ∈ R, p.1 ≤ e.from_) : (addE R e).Pairwise (fun p q => q.1 < p.1) := by
  unfold addE
  split
  · simp
  · split
    · rw [List.pairwise_cons] at h ⊢
      exact h
    · rename_i k xs r hne
      rw [List.pairwise_cons]
      refine ⟨fun q hq => ?_, h⟩
      rcases List.mem_cons.1 hq with rfl | hq
      · have := hle _ (List.mem_cons_self ..)
        simp only at this ⊢
        omega
      · have h1 := (List.pairwise_cons.1 h).1 q hq
        have := hle _ (List.mem_cons_self ..)
        simp only at this h1 ⊢
        omega
theorem nx_pw (S : List Ed) (hs : S.Pairwise ltE) : ∀ k, k ≤ S.length → ((S.take k).foldl addE []).Pairwise (fun p q => q.1 < p.1)
  | 0, _ => by simp
  | k + 1, hk => by
    rw [List.take_succ_eq_append_getElem (by omega), List.foldl_append]
    exact addE_pw (nx_pw S hs k (by omega)) (nx_inv S hs k (by omega))
abbrev Row := Int × Value × List Int
def rowsR : List Row → Res
  | [] => prop True
  | r :: rs => star (vec 3 1 r.2.1 r.2.2.length (r.2.2.map (Value.int .i64))) (rowsR rs)
def rowsP (R : List Row) : List (Int × List Int) := R.map fun r => (r.1, r.2.2)
def rowOf (R : List Row) (a : Int) : Option Row := R.find? fun r => decide (r.1 = a)
def NX (es : List (Int × Value)) (R : List Row) : Prop := ∀ a, getL es a = (rowOf R a).map (·.2.1)
theorem addE_len {R : List (Int × List Int)} {e : Ed} {k : Nat} (h : ∀ p ∈ R, p.2.length ≤ k) : ∀ p ∈ addE R e, p.2.length ≤ k + 1 := by
  intro p hp
  unfold addE at hp
  split at hp
  · simp at hp; subst hp; simp
  · split at hp
    · rcases List.mem_cons.1 hp with rfl | hp
      · have := h _ (List.mem_cons_self ..)
        simp only [List.length_append, List.length_cons, List.length_nil] at this ⊢
        omega
      · have := h p (List.mem_cons_of_mem _ hp)
        omega
    · rcases List.mem_cons.1 hp with rfl | hp
      · simp
      · have := h p hp
        omega
theorem nx_len (S : List Ed) : ∀ k, k ≤ S.length → ∀ p ∈ (S.take k).foldl addE [], p.2.length ≤ k
  | 0, _ => by simp
  | k + 1, hk => by
    rw [List.take_succ_eq_append_getElem (by omega), List.foldl_append]
    exact addE_len (nx_len S k (by omega))
theorem rowOf_none {R : List Row} {a : Int} (h : ∀ p ∈ rowsP R, p.1 ≠ a) : rowOf R a = none := by
  unfold rowOf
  rw [List.find?_eq_none]
  intro r hr
  have := h (r.1, r.2.2) (List.mem_map.2 ⟨r, hr, rfl⟩)
  simpa using this
theorem rowOf_cons (k : Int) (v : Value) (xs : List Int) (R : List Row) (a : Int) : rowOf ((k, v, xs) :: R) a = if a = k then some (k, v, xs) else rowOf R a := by
  unfold rowOf
  rw [List.find?_cons]
  by_cases h : a = k
  · subst h; simp
  · simp [h, Ne.symm h]
/-- The row that is written next, brought to the front. -/
theorem nx_open {W : World} {es : List (Int × Value)} {R : List Row} {fr tgt : Int} {rs : List Res} (hS : Sep W (rowsR R :: rs)) (hN : NX es R) (hle : ∀ p ∈ rowsP R, p.1 ≤ fr) (hpw : (rowsP R).Pairwise (fun p q => q.1 < p.1)) :
    ∃ cv xs rest, Sep W (vec 3 1 cv xs.length (xs.map (Value.int .i64)) :: rowsR rest :: rs) ∧ ((getL es fr).map (id : Value → Value)).getD (.slice none 0 0) = cv ∧ (fr, xs ++ [tgt]) :: rowsP rest = addE (rowsP R) ⟨fr, tgt⟩ ∧
      ∀ cv', NX (putL es fr cv') ((fr, cv', xs ++ [tgt]) :: rest) := by
  have new : (∀ p ∈ rowsP R, p.1 ≠ fr) → ∃ cv xs rest, Sep W (vec 3 1 cv xs.length (xs.map (Value.int .i64)) :: rowsR rest :: rs) ∧ ((getL es fr).map (id : Value → Value)).getD (.slice none 0 0) = cv ∧ (fr, xs ++ [tgt]) :: rowsP rest = addE (rowsP R) ⟨fr, tgt⟩ ∧
      ∀ cv', NX (putL es fr cv') ((fr, cv', xs ++ [tgt]) :: rest) := by
    intro hne
    refine ⟨.slice none 0 0, [], R, hS.vec_nil _ _, by rw [hN, rowOf_none hne]; rfl, ?_, ?_⟩
    · cases R with
      | nil => rfl
      | cons r R =>
        have := hne (r.1, r.2.2) (by simp [rowsP])
        simp only at this
        simp [rowsP, addE, this]
    · intro cv' a
      rw [getL_putL, rowOf_cons]
      by_cases h : a = fr
      · simp [h]
      · rw [if_neg h, if_neg h]; exact hN a
  cases R with
  | nil => exact new (by simp [rowsP])
  | cons r R =>
    obtain ⟨k, v, xs⟩ := r
    by_cases hk : k = fr
    · subst hk
      have h2 := Sep.gstar.1 hS
      refine ⟨v, xs, R, h2, ?_, by simp [rowsP, addE], ?_⟩
      · rw [hN, rowOf_cons, if_pos rfl]; rfl
      · intro cv' a
        rw [getL_putL, rowOf_cons]
        by_cases h : a = k
        · simp [h]
        · rw [if_neg h, if_neg h, hN a, rowOf_cons, if_neg h]
    · refine new fun p hp => ?_
      have h1 := hle (k, xs) (by simp [rowsP])
      have h2 : (rowsP ((k, v, xs) :: R)) = (k, xs) :: rowsP R := rfl
      rw [h2] at hp hpw
      rcases List.mem_cons.1 hp with rfl | hp
      · exact hk
      · have h3 := (List.pairwise_cons.1 hpw).1 p hp
        simp only at h1 h3
        omega
theorem rows_cons {W : World} {k : Int} {v : Value} {n : Nat} {xs : List Int} {R : List Row} {rs : List Res} (hn : n = xs.length) (h : Sep W (vec 3 1 v n (xs.map (Value.int .i64)) :: rowsR R :: rs)) : Sep W (rowsR ((k, v, xs) :: R) :: rs) := by
  subst hn
  exact Sep.gstar.2 h
theorem lawI : KeyEnc Try.prog 3 ekI := keyEnc_int Try.underlying3
theorem srcA_cells (w : World) (cs : Array Value) (t : TypeId) (c sz : Nat) (hz : cs.size = sz) : SrcA (w.alloc (.cells cs t)) sz (.slice (some ⟨w.heap.size, 0, none⟩) 1 c) 1 cs.toList := by
  refine .inr ⟨_, _, rfl, by simpa using hz, fun j u hu => ?_⟩
  rw [Addr.add_lit, (Blk.new w t cs).cell]
  simpa using hu
theorem zero_ints (w : World) : (zeroValue 30).run Try.prog w = .ok (.slice none 0 0) w := by kernel_rfl
theorem und_nx : Try.prog.underlying 62 = some (.map 3 30) := by kernel_rfl
set_option maxHeartbeats 4000000 in
set_option maxRecDepth 100000 in
theorem nexts_any (v : Value) (L : List Ed) (w : World) (hv : RL w v 2 L.length (L.flatMap Ed.cells)) (hl : L.length ≤ 1000) :
    Calls Try.prog 32 #[v] w fun e w' => ∃ b es R, e = .returned (.map (some b)) ∧ rowsP R = nxL L ∧ NX es R ∧ Sep w' [mapr ekI id b es, rowsR R, old w] := by
  have HS := Lib.hid (fun W (h : RL W v 2 L.length (L.flatMap Ed.cells)) => sorted_any v L W h (by omega))
  have hsl := sdE_len L
  have hinv := Lib.hid (fun k hk => nx_inv (sdE L) (sdE_pw L) k hk)
  have hpw := Lib.hid (fun k hk => nx_pw (sdE L) (sdE_pw L) k hk)
  unfold nxL
  generalize sdE L = S at *
  replace HS := HS.out
  obtain ⟨n, hn⟩ : ∃ n, Hid (S.length = n) := ⟨_, rfl⟩
  rw [hn.out] at hsl
  simp only [hn.out] at HS
  replace HS := Lib.hid HS
  have hmm := @run_makeMap Try.prog
  have hM := Lib.hid ((Sep.start w).map_new ekI (id : Value → Value))
  replace hv := Lib.hid hv
  go_enter Try.func32, Try.ntmps32
  go_wp2_with fail
  clear hmm
  refine (HS.out _ (hv.out.below hM.out.tail.gold)).mono ?_
  rintro e w1 ⟨a, c, rfl, q⟩
  have hV := Lib.hid (q.graft hM.out)
  clear q HS hM hv
  generalize w.heap.size = m at *
  go_wp2_with fail
  go_loopw [10] (fun x wr => ∃ (k : Nat) (R : List Row) (es : List (Int × Value)), k ≤ n ∧ x = .int .i64 k ∧ Hid (rowsP R = (S.take k).foldl addE []) ∧ Hid (NX es R) ∧ Hid (Sep wr [rowsR R, mapr ekI (id : Value → Value) m es, vec 41 2 (.slice a n c) n (S.flatMap Ed.cells), old w])) (fun x _ => n - (intOf x).toNat)
  case atStart => exact ⟨0, [], [], Nat.zero_le _, rfl, Lib.hid rfl, Lib.hid (fun _ => rfl), Lib.hid ((Sep.gprop (p := True)).2 ⟨trivial, hV.out.to1⟩)⟩
  case round =>
    clear hV
    obtain ⟨k, R, es, hk, rfl, hR, hN, hV⟩ := hrel
    by_cases hlt : k < n
    · obtain ⟨g, rfl, _, _, zz, _⟩ := hV.out.to2.vec_at ed_len hn.out hlt
      have hg : S.getD k default = S[k]'(by rw [hn.out]; exact hlt) := by simp [List.getD, show k < S.length by rw [hn.out]; exact hlt]
      have hle := hinv.out k (by rw [hn.out]; exact hlt)
      have hpk := hpw.out k (by rw [hn.out]; exact hk)
      have hR2 := Lib.hid (show (S.take (k + 1)).foldl addE [] = addE ((S.take k).foldl addE []) (S.getD k default) by rw [hg, List.take_succ_eq_append_getElem (by rw [hn.out]; exact hlt), List.foldl_append]; rfl)
      have hln := Lib.hid (nx_len S (k + 1) (by rw [hn.out]; exact hlt))
      rw [hR2.out] at hln
      rw [← hg] at hle
      rw [← hR.out] at hle hpk hR2 hln
      generalize S.getD k default = ed at *
      obtain ⟨fr, tgt⟩ := ed
      have z0 := zz 0 _ rfl
      have z1 := zz 1 _ rfl
      rw [Nat.add_zero] at z0
      obtain ⟨cv, xs, rest, hV2, hlk, had, hnx⟩ := nx_open (tgt := tgt) hV.out hN.out hle hpk
      rw [← had] at hR2 hln
      have hxl : Hid (xs.length ≤ k) := Lib.hid (by have := hln.out _ (List.mem_cons_self ..); simp only [List.length_append, List.length_cons, List.length_nil] at this; omega)
      replace hV := Lib.hid hV2
      replace hnx := Lib.hid hnx
      replace hlk := Lib.hid hlk
      have i1 : (0 : Int) ≤ (k : Int) := by omega
      have i2 : (k : Int) < (n : Int) := by omega
      clear zz hg hle hpk had hln hV2 hN hR
      obtain ⟨xn, hxn⟩ : ∃ xn, Hid (xs.length = xn) := ⟨_, rfl⟩
      rw [hxn.out] at hV hxl
      have hB := Lib.hid (hV.out.alloc #[.int .i64 fr, .int .i64 tgt] 41)
      clear hV
      obtain ⟨i0, hi0, hz0, hz1, hz2⟩ := info_parts info_int
      have h1c : Hid (∀ u ∈ ([.int .i64 tgt] : List Value), u.oneCell' = true) := Lib.hid (by simp [Value.oneCell'])
      go_wp2_with fail
      replace hB := Lib.hid hB.out.to3.to1.drew
      generalize wr.heap.size = EB at *
      have hS := Lib.hid (show (fun W : World => ∃ u q cs, Sep W [blk EB 41 #[.int .i64 fr, .int .i64 tgt], mapr ekI (id : Value → Value) m es, vec 3 1 u q cs, rowsR rest, vec 41 2 (.slice (some ⟨g, 0, none⟩) n c) n (S.flatMap Ed.cells), old w]) _ from ⟨_, _, _, hB.out⟩)
      refine hx_begin (fun W : World => ∃ u q cs, Sep W [blk EB 41 #[.int .i64 fr, .int .i64 tgt], mapr ekI (id : Value → Value) m es, vec 3 1 u q cs, rowsR rest, vec 41 2 (.slice (some ⟨g, 0, none⟩) n c) n (S.flatMap Ed.cells), old w]) 11 [(0, true), (1, true), (2, true), (3, true), (4, true), (5, true), (6, true), (7, true), (8, true), (9, false), (10, false), (11, false)] [(10, 11), (0, 11), (1, 11), (2, 11), (3, 11), (4, 11), (5, 11), (6, 11), (7, 11), (8, 11), (9, 11)] (by kernel_rfl) (by kernel_rfl) (by kernel_rfl) (by kernel_rfl) rfl (by kernel_rfl) (by kernel_rfl) (fun _ _ _ _ _ h => h) hS.out ?_
      change HX _ _ _ _ _ _ _ (World.drew _)
      generalize World.drew _ = wd at *
      refine hx_take ?v0 rfl (by kernel_rfl) ?y0 ?z0
      case y0 => intro W hW; skip; replace hW := Lib.hid hW; go_simp; try rfl
      case z0 =>
      simp only [Act.put, List.setIfInBounds_toArray, List.set_cons_succ, List.set_cons_zero, List.getElem_toArray, List.getElem_cons_zero, List.getElem_cons_succ]
      refine hx_take ?v1 rfl (by kernel_rfl) ?y1 ?z1
      case y1 => intro W hW; skip; replace hW := Lib.hid hW; go_simp; try rfl
      case z1 =>
      simp only [Act.put, List.setIfInBounds_toArray, List.set_cons_succ, List.set_cons_zero, List.getElem_toArray, List.getElem_cons_zero, List.getElem_cons_succ]
      refine hx_take ?v2 rfl (by kernel_rfl) ?y2 ?z2
      case y2 => intro W hW; obtain ⟨_, _, _, hW⟩ := hW; obtain ⟨_, c0, c1, _⟩ := hW.b2; replace hW := Lib.hid hW; go_simp; try rfl
      case z2 =>
      simp only [Act.put, List.setIfInBounds_toArray, List.set_cons_succ, List.set_cons_zero, List.getElem_toArray, List.getElem_cons_zero, List.getElem_cons_succ]
      refine hx_take ?v3 rfl (by kernel_rfl) ?y3 ?z3
      case y3 => intro W hW; skip; replace hW := Lib.hid hW; go_simp; try rfl
      case z3 =>
      simp only [Act.put, List.setIfInBounds_toArray, List.set_cons_succ, List.set_cons_zero, List.getElem_toArray, List.getElem_cons_zero, List.getElem_cons_succ]
      refine hx_take ?v4 rfl (by kernel_rfl) ?y4 ?z4
      case y4 => intro W hW; skip; replace hW := Lib.hid hW; go_simp; try rfl
      case z4 =>
      simp only [Act.put, List.setIfInBounds_toArray, List.set_cons_succ, List.set_cons_zero, List.getElem_toArray, List.getElem_cons_zero, List.getElem_cons_succ]
      refine hx_take ?v5 rfl (by kernel_rfl) ?y5 ?z5
      case y5 => intro W hW; obtain ⟨_, _, _, hW⟩ := hW; obtain ⟨_, c0, c1, _⟩ := hW.b2; replace hW := Lib.hid hW; go_simp; try rfl
      case z5 =>
      simp only [Act.put, List.setIfInBounds_toArray, List.set_cons_succ, List.set_cons_zero, List.getElem_toArray, List.getElem_cons_zero, List.getElem_cons_succ]
      refine hx_take ?v6 rfl (by kernel_rfl) ?y6 ?z6
      case y6 => intro W hW; obtain ⟨_, _, _, hW⟩ := hW; have hk := run_lookup_map lawI und_nx hW.to1 (zero_ints W) fr false; rw [if_neg (by simp), hlk.out] at hk; unfold ekI at hk; replace hW := Lib.hid hW; go_simp; try rfl
      case z6 =>
      simp only [Act.put, List.setIfInBounds_toArray, List.set_cons_succ, List.set_cons_zero, List.getElem_toArray, List.getElem_cons_zero, List.getElem_cons_succ]
      refine hx_take ?v7 rfl (by kernel_rfl) ?y7 ?z7
      case y7 => intro W hW; skip; replace hW := Lib.hid hW; go_simp; try rfl
      case z7 =>
      simp only [Act.put, List.setIfInBounds_toArray, List.set_cons_succ, List.set_cons_zero, List.getElem_toArray, List.getElem_cons_zero, List.getElem_cons_succ]
      refine hx_take ?v8 rfl (by kernel_rfl) ?y8 ?z8
      case y8 => intro W hW; obtain ⟨_, _, _, hW⟩ := hW; obtain ⟨_, c0, c1, _⟩ := hW.b2; replace hW := Lib.hid hW; go_simp; try rfl
      case z8 =>
      simp only [Act.put, List.setIfInBounds_toArray, List.set_cons_succ, List.set_cons_zero, List.getElem_toArray, List.getElem_cons_zero, List.getElem_cons_succ]
      refine hx_one (by decide) rfl (by kernel_rfl) (fun K hK => ?_)
      go_simp
      replace hB := Lib.hid (hB.out.allocG (.cells #[.int .i64 tgt] 3))
      have hsrc := Lib.hid (srcA_cells wd #[.int .i64 tgt] 3 1 1 rfl)
      refine hK.out _ _ ⟨_, _, _, hB.out⟩ ?_
      clear hK K
      try simp only [Act.put, List.setIfInBounds_toArray, List.set_cons_succ, List.set_cons_zero, List.getElem_toArray, List.getElem_cons_zero, List.getElem_cons_succ]
      refine hx_one (by decide) rfl (by kernel_rfl) (fun K hK => ?_)
      refine wp_append_sep hB.out.to2 (.tmp 20) (.tmp 23) 30 (by rfl) i0 _ 8 Try.underlying30 hi0 hz0 hz1 hz2 rfl (by decide) (by rfl) 1 [.int .i64 tgt] (by exact hsrc.out) h1c.out ?c901 ?d901 ?_
      case c901 => have := hxl.out; simp only [maxLen]; omega
      case d901 => have := hxl.out; omega
      intro na nc w2 q
      replace hB := Lib.hid (show Sep _ _ from q.to2.to2)
      clear q hsrc
      refine hK.out _ _ ⟨_, _, _, hB.out⟩ ?_
      clear hK K
      try simp only [Act.put, List.setIfInBounds_toArray, List.set_cons_succ, List.set_cons_zero, List.getElem_toArray, List.getElem_cons_zero, List.getElem_cons_succ]
      refine hx_last rfl (by kernel_rfl) (fun K hK => ?_)
      refine wp_mapUpdate_map hB.out.to1 lawI und_nx (.tmp 14) (.tmp 16) (.tmp 24) (by rfl) (by rfl) fr (.slice na (xn + 1) nc) (by rfl) (by rfl) ?_
      intro w3 q
      replace hB := Lib.hid q
      clear q
      refine hK.out _ _ ?_
      clear hK K
      try simp only [Act.put, List.setIfInBounds_toArray, List.set_cons_succ, List.set_cons_zero, List.getElem_toArray, List.getElem_cons_zero, List.getElem_cons_succ]
      refine hx_done ?_
      clear hS
      go_wp2_with fail
      go_roundw
      case rel =>
        refine ⟨k + 1, (fr, .slice na (xn + 1) nc, xs ++ [tgt]) :: rest, putL es fr (.slice na (xn + 1) nc), by omega, by go_num, Lib.hid (by rw [hR2.out] <;> rfl), Lib.hid (hnx.out _), Lib.hid (rows_cons (by rw [List.length_append, hxn.out] <;> rfl) ?_)⟩
        have h := hB.out.drop1.to2.to2
        rw [List.map_append]
        exact h
      case measure => simp [intOf]; omega
    · have hkn : k = n := by omega
      subst hkn
      go_wp2_with fail
      go_ret
      exact ⟨m, es, R, rfl, by rw [hR.out, ← hn.out, List.take_length], hN.out, hV.out.to1.drop2⟩
end Go.Proofs.Ytcnkmhfcgkbhbaa
