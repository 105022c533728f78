/-
  What a clock has, against what is wanted: the plain law of TicksOnce. No condition.
-/
import Derived.Test.YtcbjgibcgalppaaTkF
namespace Go.Proofs.Ytcbjgibcgalppaa
open Go.RowKit Go.Shelf
/-- The clock has exactly what is wanted: one of each, of mark 7. -/
def Mir (want : List Int) (L : List Tm) : Prop := ∀ x : Tm, x ∈ L ↔ (x.2.2 = 7 ∧ 0 ≤ x.2.1 ∧ x.2.1 < want.length ∧ want.getD x.2.1.toNat 0 = x.1 ∧ 0 < x.1)
theorem mir_nil : Mir [] [] := fun x => ⟨fun h => absurd h (by simp), fun ⟨_, h1, h2, _⟩ => by simp at h2; omega⟩
theorem tm_ext {x : Tm} {a b c : Int} (h1 : x.1 = a) (h2 : x.2.1 = b) (h3 : x.2.2 = c) : x = (a, b, c) := by
  obtain ⟨x0, x1, x2⟩ := x
  simp only at h1 h2 h3
  subst h1 h2 h3
  rfl
theorem getD_app (l : List Int) (t : Int) (k : Nat) : (l ++ [t]).getD k 0 = if k < l.length then l.getD k 0 else if k = l.length then t else 0 := by
  simp only [List.getD_eq_getElem?_getD]
  split
  · rename_i h
    rw [List.getElem?_append_left h]
  · rename_i h
    rw [List.getElem?_append_right (by omega)]
    split
    · rename_i e
      subst e
      simp
    · rw [List.getElem?_eq_none (by simp; omega)]
      rfl
theorem mir_push {want : List Int} {L : List Tm} {t : Int} (h : Mir want L) (ht : 0 < t) : Mir (want ++ [t]) (insT (t, (want.length : Int), 7) L) := by
  intro x
  rw [(insT_perm _ L).mem_iff, List.mem_cons, h x, List.length_append, List.length_singleton, getD_app]
  constructor
  · rintro (rfl | ⟨h1, h2, h3, h4, h5⟩)
    · refine ⟨rfl, by simp, by simp only; omega, ?_, ht⟩
      simp
    · refine ⟨h1, h2, by omega, ?_, h5⟩
      rw [if_pos (by omega)]
      exact h4
  · rintro ⟨h1, h2, h3, h4, h5⟩
    by_cases hx : x.2.1 < want.length
    · rw [if_pos (by omega)] at h4
      exact .inr ⟨h1, h2, hx, h4, h5⟩
    · rw [if_neg (by omega), if_pos (by omega)] at h4
      exact .inl (tm_ext h4.symm (by omega) h1)
theorem mir_fresh {want : List Int} {L : List Tm} (h : Mir want L) : L.any (keyB (want.length : Int) 7) = false := by
  rw [List.any_eq_false]
  intro x hx hk
  have h3 := ((h x).1 hx).2.2.1
  unfold keyB at hk
  simp at hk
  omega
theorem mir_mem {want : List Int} {L : List Tm} {i : Nat} (h : Mir want L) (hi : i < want.length) (hp : 0 < want.getD i 0) : (want.getD i 0, (i : Int), 7) ∈ L := by
  rw [h]
  exact ⟨rfl, by simp, by simpa using hi, by simp, hp⟩
theorem mir_has {want : List Int} {L : List Tm} {i : Nat} (h : Mir want L) (hi : i < want.length) (hp : 0 < want.getD i 0) : L.any (keyB (i : Int) 7) = true :=
  List.any_eq_true.2 ⟨_, mir_mem h hi hp, by simp [keyB]⟩
theorem nodup_lt {L : List Tm} (h : L.Pairwise ltP) : L.Nodup := h.imp (fun {a b} h e => by
  subst e
  have := ltP_ne h
  rw [show ltT a a = true from h] at this
  cases this)
theorem getD_set (l : List Int) (i k : Nat) (hi : i < l.length) : (l.set i 0).getD k 0 = if k = i then 0 else l.getD k 0 := by
  simp only [List.getD_eq_getElem?_getD]
  by_cases h : k = i
  · subst h
    rw [if_pos rfl, List.getElem?_set_self hi]
    rfl
  · rw [if_neg h, List.getElem?_set_ne (fun e => h e.symm)]
/-- One less. -/
theorem mir_less {want : List Int} {L M : List Tm} {x : Tm} (h : Mir want L) (hx : x ∈ L) (hM : ∀ y, y ∈ M ↔ y ∈ L ∧ y ≠ x) : Mir (want.set x.2.1.toNat 0) M := by
  obtain ⟨h1, h2, h3, h4, h5⟩ := (h x).1 hx
  intro y
  rw [hM, h y, List.length_set, getD_set _ _ _ (by omega)]
  constructor
  · rintro ⟨⟨k1, k2, k3, k4, k5⟩, hne⟩
    refine ⟨k1, k2, k3, ?_, k5⟩
    rw [if_neg (fun e => hne ?_)]
    · exact k4
    · obtain ⟨x0, x1, x2⟩ := x
      simp only at *
      have : y.2.1 = x1 := by omega
      refine tm_ext ?_ this (by omega)
      rw [← k4, ← h4, e]
  · rintro ⟨k1, k2, k3, k4, k5⟩
    split at k4
    · omega
    · rename_i e
      exact ⟨⟨k1, k2, k3, k4, k5⟩, fun e2 => e (by rw [e2])⟩
theorem mir_drop {want : List Int} {L : List Tm} {i : Nat} (h : Mir want L) (hs : L.Pairwise ltP) (hk : KeysND L) (hi : i < want.length) (hp : 0 < want.getD i 0) : Mir (want.set i 0) (L.eraseP (keyB (i : Int) 7)) := by
  have hm := mir_mem h hi hp
  have he := eraseP_erase (who := (i : Int)) (mark := 7) hk hm (by simp [keyB])
  have h2 := mir_less (M := L.erase (want.getD i 0, (i : Int), 7)) h hm (fun y => by rw [(nodup_lt hs).mem_erase_iff]; exact and_comm)
  rw [he]
  simpa using h2
theorem mir_tail {want : List Int} {M : List Tm} {x : Tm} (h : Mir want (x :: M)) (hs : (x :: M).Pairwise ltP) : Mir (want.set x.2.1.toNat 0) M :=
  mir_less h List.mem_cons_self (fun y => by
    have hn := (List.nodup_cons.1 (nodup_lt hs)).1
    rw [List.mem_cons]
    constructor
    · exact fun hy => ⟨.inr hy, fun e => hn (e ▸ hy)⟩
    · rintro ⟨rfl | hy, hne⟩
      · exact absurd rfl hne
      · exact hy)
/-- How many of the first k are wanted still. -/
def cntU (want : List Int) (k : Nat) : Nat := ((List.range k).filter fun i => decide (0 < want.getD i 0)).length
theorem cntU_hit {want : List Int} {k : Nat} (h : 0 < want.getD k 0) : cntU want (k + 1) = cntU want k + 1 := by
  unfold cntU
  rw [List.range_succ, List.filter_append, List.length_append, List.filter_cons, decide_eq_true h]
  rfl
theorem cntU_miss {want : List Int} {k : Nat} (h : ¬ 0 < want.getD k 0) : cntU want (k + 1) = cntU want k := by
  unfold cntU
  rw [List.range_succ, List.filter_append, List.length_append, List.filter_cons, decide_eq_false h]
  rfl
theorem cntU_le (want : List Int) (k : Nat) : cntU want k ≤ k := by
  unfold cntU
  exact Nat.le_trans (List.length_filter_le _ _) (by simp)
theorem mir_count {want : List Int} {L : List Tm} (h : Mir want L) (hs : L.Pairwise ltP) : L.length = cntU want want.length := by
  have hp : (L.map fun x => x.2.1.toNat).Perm ((List.range want.length).filter fun i => decide (0 < want.getD i 0)) := by
    refine (List.perm_ext_iff_of_nodup ?_ ?_).2 fun i => ?_
    · refine List.pairwise_map.2 ((nodup_lt hs).imp_of_mem fun {a b} ha hb hne e => hne ?_)
      obtain ⟨a1, a2, a3, a4, a5⟩ := (h a).1 ha
      obtain ⟨b1, b2, b3, b4, b5⟩ := (h b).1 hb
      obtain ⟨b0, bw, bm⟩ := b
      simp only at *
      refine tm_ext ?_ (by omega) (by omega)
      rw [← a4, ← b4, e]
    · exact List.nodup_range.filter _
    · rw [List.mem_map, List.mem_filter, List.mem_range, decide_eq_true_iff]
      constructor
      · rintro ⟨x, hx, rfl⟩
        obtain ⟨h1, h2, h3, h4, h5⟩ := (h x).1 hx
        exact ⟨by omega, by rw [h4]; exact h5⟩
      · rintro ⟨h1, h2⟩
        exact ⟨_, mir_mem h h1 h2, by simp⟩
  have := hp.length_eq
  rw [List.length_map] at this
  exact this
theorem clock_srt {w : World} {p : Nat} {now : Int} {L : List Tm} {rs : List Res} (h : Sep w (clockR p now L :: rs)) : L.Pairwise ltP ∧ KeysND L := by
  obtain ⟨_, _, _, hok, _, _⟩ := clock_open h
  exact ⟨hok.srt, hok.keys⟩
/-- After the last one that fired. -/
def After (last x : Tm) : Prop := last.1 < x.1 ∨ last.1 = x.1 ∧ last.2.1 < x.2.1
theorem after_lt {a b : Tm} (h : ltP a b) (hm : a.2.2 = b.2.2) : After a b := by
  unfold ltP at h
  rw [ltT_iff] at h
  unfold After
  omega
theorem dueN_spec (now : Int) (L : List Tm) : (∀ k x, k < (L.takeWhile fun t : Tm => decide (t.1 ≤ now)).length → L[k]? = some x → x.1 ≤ now) := by
  intro k x hk hx
  have h1 := List.getElem?_eq_getElem hk
  have h2 : (L.takeWhile fun t : Tm => decide (t.1 ≤ now))[k]? = L[k]? := by
    have := List.takeWhile_append_dropWhile (p := fun t : Tm => decide (t.1 ≤ now)) (l := L)
    conv => rhs; rw [← this]
    rw [List.getElem?_append_left hk]
  rw [h2, hx] at h1
  have hm := List.getElem_mem hk
  rw [← Option.some.inj h1] at hm
  have := List.all_takeWhile (p := fun t : Tm => decide (t.1 ≤ now)) (l := L)
  rw [List.all_eq_true] at this
  simpa using this x hm
theorem rest_spec (now : Int) : ∀ (L : List Tm), L.Pairwise ltP → ∀ x ∈ L.drop (L.takeWhile fun t : Tm => decide (t.1 ≤ now)).length, now < x.1
  | [], _, x, hx => absurd hx (by simp)
  | y :: L, hs, x, hx => by
    rw [List.takeWhile_cons] at hx
    obtain ⟨h1, h2⟩ := List.pairwise_cons.1 hs
    split at hx
    · rw [List.length_cons, List.drop_succ_cons] at hx
      exact rest_spec now L h2 x hx
    · rename_i hy
      have hy : now < y.1 := by simpa using hy
      simp only [List.length_nil, List.drop_zero] at hx
      rcases List.mem_cons.1 hx with rfl | hx
      · exact hy
      · have := h1 x hx
        unfold ltP at this
        rw [ltT_iff] at this
        omega
end Go.Proofs.Ytcbjgibcgalppaa
