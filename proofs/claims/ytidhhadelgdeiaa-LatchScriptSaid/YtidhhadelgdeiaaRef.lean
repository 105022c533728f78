/-
  The contracts of the reference's latches over the same list of holders. No condition beside latches that read so.
-/
import Derived.Test.YtidhhadelgdeiaaOpen
namespace Go.Proofs.Ytidhhadelgdeiaa
open Go.RowKit

/-- The reference's latches at p, their row at g. -/
structure LatR (w : World) (p g : Nat) (L : List Int) : Prop where
  ex : ∃ (c : Nat) (cur : Array Value), Blk w p 53 #[.slice (some ⟨g, 0, none⟩) L.length c] ∧ Blk w g 3 cur ∧ L.length ≤ c ∧ c ≤ maxLen ∧ cur.size = c ∧ cur.toList.take L.length = L.map (Value.int .i64)
  len : L.length ≤ 16
  st : ∀ k, k < L.length → L.getD k 0 = -1 ∨ (0 ≤ L.getD k 0)
theorem cur_at {L : List Int} {cur : Array Value} (h : cur.toList.take L.length = L.map (Value.int .i64)) (k : Nat) (hk : k < L.length) : cur[k]? = some (.int .i64 (L.getD k 0)) := by
  have h1 : (cur.toList.take L.length)[k]? = some (.int .i64 (L.getD k 0)) := by rw [h]; simp [List.getD, hk]
  rw [List.getElem?_take, if_pos hk] at h1
  simpa using h1
theorem LatR.grown {w w' : World} {p g b : Nat} {L : List Int} (h : LatR w p g L) (hb : w.grownBy w' (some b)) (h1 : p ≠ b) (h2 : g ≠ b) : LatR w' p g L := by
  obtain ⟨c, cur, a1, a2, rest⟩ := h.ex
  exact ⟨⟨c, cur, a1.grown hb (fun e => by injection e with e; exact h1 e), a2.grown hb (fun e => by injection e with e; exact h2 e), rest⟩, h.len, h.st⟩
theorem LatR.below {w w' : World} {p g : Nat} {L : List Int} (h : LatR w p g L) (hb : Below w.heap.size w w') : LatR w' p g L := by
  obtain ⟨c, cur, a1, a2, rest⟩ := h.ex
  exact ⟨⟨c, cur, a1.below' hb, a2.below' hb, rest⟩, h.len, h.st⟩
theorem LatR.drewN {w : World} {p g : Nat} {L : List Int} (h : LatR w p g L) (n : Nat) : LatR (w.drewN n) p g L := by
  obtain ⟨c, cur, a1, a2, rest⟩ := h.ex
  exact ⟨⟨c, cur, a1, a2, rest⟩, h.len, h.st⟩
theorem LatR.store {w : World} {p g : Nat} {L : List Int} (h : LatR w p g L) (k : Nat) (hk : k < L.length) (s : Int) (hs : s = -1 ∨ 0 ≤ s) : LatR (w.setCell ⟨g, k, none⟩ (.int .i64 s)) p g (L.set k s) := by
  obtain ⟨c, cur, a1, a2, h3, h4, h5, h6⟩ := h.ex
  refine ⟨⟨c, cur.setIfInBounds k (.int .i64 s), ?_, a2.set_ k _, by simpa using h3, h4, by simpa using h5, ?_⟩, by simpa using h.len, fun j hj => ?_⟩
  · rw [List.length_set]; exact a1.far (by exact a1.ne_ a2 (by decide)) _
  · rw [List.length_set, Array.toList_setIfInBounds, List.take_set, h6, List.map_set]
  · by_cases e : k = j
    · subst e
      rw [show (L.set k s).getD k 0 = s by simp [List.getD, hk]]
      exact hs
    · rw [show (L.set k s).getD j 0 = L.getD j 0 by simp [List.getD, List.getElem?_set, e]]
      exact h.st j (by simpa using hj)

theorem mayR_any (p g : Nat) (k t : Int) (L : List Int) (w : World) (h : LatR w p g L) :
   Calls Try.prog 26 #[.pointer (some ⟨p, 0, none⟩), .int .i64 k, .int .i64 t] w fun e w' => e = .returned (.bool (okB L.length k t)) ∧ w = w' := by
  obtain ⟨c, cur, a1, a2, h3, h4, h5, h6⟩ := h.ex
  have hl := h.len
  have hp := a1.cell 0
  simp at hp
  clear a1 a2 h6 h
  by_cases h1 : 0 ≤ k
  · by_cases h2 : k < L.length
    · by_cases g1 : 0 ≤ t
      · by_cases g2 : t < 8
        · have E := Lib.hid (show okB L.length k t = true by simp [okB]; omega)
          go_enter Try.func26, Try.ntmps26
          go_wp2
          go_ret
          exact ⟨by rw [E.out]; rfl, rfl⟩
        · have E := Lib.hid (show okB L.length k t = false by simp [okB]; omega)
          go_enter Try.func26, Try.ntmps26
          go_wp2
          go_ret
          exact ⟨by rw [E.out]; rfl, rfl⟩
      · have E := Lib.hid (show okB L.length k t = false by simp [okB]; omega)
        go_enter Try.func26, Try.ntmps26
        go_wp2
        go_ret
        exact ⟨by rw [E.out]; rfl, rfl⟩
    · have E := Lib.hid (show okB L.length k t = false by simp [okB]; omega)
      go_enter Try.func26, Try.ntmps26
      go_wp2
      go_ret
      exact ⟨by rw [E.out]; rfl, rfl⟩
  · have E := Lib.hid (show okB L.length k t = false by simp [okB]; omega)
    go_enter Try.func26, Try.ntmps26
    go_wp2
    go_ret
    exact ⟨by rw [E.out]; rfl, rfl⟩
theorem okB_nat {n : Nat} {k t : Int} (h : okB n k t = true) : ∃ q : Nat, k = q ∧ q < n ∧ 0 ≤ t ∧ t < 8 := by
  simp [okB] at h
  exact ⟨k.toNat, by omega, by omega, by omega, by omega⟩

theorem tryR_any (p g : Nat) (k t : Int) (L : List Int) (w : World) (h : LatR w p g L) :
   Calls Try.prog 19 #[.pointer (some ⟨p, 0, none⟩), .int .i64 k, .int .i64 t] w fun e w' => e = .returned (.tuple #[.bool (tryB L k t), .int .i64 (tryC L k t)]) ∧ LatR w' p g (tryS L k t) ∧ w.grownBy w' (some g) := by
  have H := Lib.hid (mayR_any p g k t L w h)
  cases hk : okB L.length k t with
  | false =>
    rw [show tryB L k t = false by simp [tryB, hk], show tryC L k t = 2 by simp [tryC, hk], show tryS L k t = L by simp [tryS, hk]]
    rw [hk] at H
    replace h := Lib.hid h
    clear hk
    go_enter Try.func19, Try.ntmps19
    go_wp2_with (go_at_call 26; refine H.out.mono ?_; rintro e w' ⟨rfl, rfl⟩)
    go_ret2
    exact ⟨rfl, h.out, grown_refl _ _⟩
  | true =>
    rw [hk] at H
    obtain ⟨k, rfl, hlt, ht1, ht2⟩ := okB_nat hk
    obtain ⟨c, cur, a1, a2, h3, h4, h5, h6⟩ := h.ex
    have hl := h.len
    have hp := a1.cell 0
    simp at hp
    have hg := a2.cell k
    rw [cur_at h6 k hlt] at hg
    have hf := a2.frozen k
    rcases h.st k hlt with hs | hs
    · rw [show tryB L k t = true by simp only [tryB, hk, Int.toNat_natCast, hs]; rfl, show tryC L k t = 0 by simp only [tryC, hk, Int.toNat_natCast, hs]; simp; omega, show tryS L k t = L.set k t by simp only [tryS, hk, Int.toNat_natCast, hs]; simp]
      have fin := Lib.hid (h.store k hlt t (.inr ht1))
      rw [hs] at hg
      have e1 : ((-1 : Int) == t) = false := by rw [beq_eq_false_iff_ne]; omega
      clear h hs a1 a2 h6 hk
      go_enter Try.func19, Try.ntmps19
      go_wp2_with (go_at_call 26; refine H.out.mono ?_; rintro e w' ⟨rfl, rfl⟩)
      go_ret2
      exact ⟨rfl, fin.out, grown_setCell⟩
    · by_cases e : L.getD k 0 = t
      · rw [show tryB L k t = false by simp only [tryB, hk, Int.toNat_natCast, e]; simp; omega, show tryC L k t = 4 by simp only [tryC, hk, Int.toNat_natCast, e]; simp, show tryS L k t = L by simp only [tryS, hk, Int.toNat_natCast, e]; simp; omega]
        have e1 : (L.getD k 0 == t) = true := by simpa using e
        replace h := Lib.hid h
        clear e a1 a2 h6 hk
        generalize L.getD k 0 = s at *
        go_enter Try.func19, Try.ntmps19
        go_wp2_with (go_at_call 26; refine H.out.mono ?_; rintro e w' ⟨rfl, rfl⟩)
        go_ret2
        exact ⟨rfl, h.out, grown_refl _ _⟩
      · have hne : ¬ L.getD k 0 = -1 := by omega
        rw [show tryB L k t = false by simp only [tryB, hk, Int.toNat_natCast, hne, decide_false, Bool.and_false], show tryC L k t = 0 by simp only [tryC, hk, Int.toNat_natCast, e]; simp, show tryS L k t = L by simp only [tryS, hk, Int.toNat_natCast, hne, and_false, if_false]]
        have e1 : (L.getD k 0 == t) = false := by simpa using e
        replace h := Lib.hid h
        clear e a1 a2 h6 hk hne
        generalize L.getD k 0 = s at *
        go_enter Try.func19, Try.ntmps19
        go_wp2_with (go_at_call 26; refine H.out.mono ?_; rintro e w' ⟨rfl, rfl⟩)
        go_ret2
        exact ⟨rfl, h.out, grown_refl _ _⟩

theorem freeR_any (p g : Nat) (k t : Int) (L : List Int) (w : World) (h : LatR w p g L) :
   Calls Try.prog 20 #[.pointer (some ⟨p, 0, none⟩), .int .i64 k, .int .i64 t] w fun e w' => e = .returned (.int .i64 (freeC L k t)) ∧ LatR w' p g (freeS L k t) ∧ w.grownBy w' (some g) := by
  have H := Lib.hid (mayR_any p g k t L w h)
  cases hk : okB L.length k t with
  | false =>
    rw [show freeC L k t = 2 by simp [freeC, hk], show freeS L k t = L by simp [freeS, hk]]
    rw [hk] at H
    replace h := Lib.hid h
    clear hk
    go_enter Try.func20, Try.ntmps20
    go_wp2_with (go_at_call 26; refine H.out.mono ?_; rintro e w' ⟨rfl, rfl⟩)
    go_ret
    exact ⟨rfl, h.out, grown_refl _ _⟩
  | true =>
    rw [hk] at H
    obtain ⟨k, rfl, hlt, ht1, ht2⟩ := okB_nat hk
    obtain ⟨c, cur, a1, a2, h3, h4, h5, h6⟩ := h.ex
    have hl := h.len
    have hp := a1.cell 0
    simp at hp
    have hg := a2.cell k
    rw [cur_at h6 k hlt] at hg
    have hf := a2.frozen k
    by_cases e : L.getD k 0 = t
    · rw [show freeC L k t = 0 by simp only [freeC, hk, Int.toNat_natCast, e]; simp, show freeS L k t = L.set k (-1) by simp only [freeS, hk, Int.toNat_natCast, e]; simp]
      have fin := Lib.hid (h.store k hlt (-1) (.inl rfl))
      have e1 : (L.getD k 0 != t) = false := by simpa using e
      clear h e a1 a2 h6 hk
      generalize L.getD k 0 = s at *
      go_enter Try.func20, Try.ntmps20
      go_wp2_with (go_at_call 26; refine H.out.mono ?_; rintro e w' ⟨rfl, rfl⟩)
      go_ret
      exact ⟨rfl, fin.out, grown_setCell⟩
    · rw [show freeC L k t = 6 by simp only [freeC, hk, Int.toNat_natCast, e]; simp, show freeS L k t = L by simp only [freeS, hk, Int.toNat_natCast, e]; simp]
      have e1 : (L.getD k 0 != t) = true := by simpa using e
      replace h := Lib.hid h
      clear e a1 a2 h6 hk
      generalize L.getD k 0 = s at *
      go_enter Try.func20, Try.ntmps20
      go_wp2_with (go_at_call 26; refine H.out.mono ?_; rintro e w' ⟨rfl, rfl⟩)
      go_ret
      exact ⟨rfl, h.out, grown_refl _ _⟩
theorem holderR_any (p g : Nat) (k : Int) (L : List Int) (w : World) (h : LatR w p g L) :
   Calls Try.prog 21 #[.pointer (some ⟨p, 0, none⟩), .int .i64 k] w fun e w' => e = .returned (.tuple #[.int .i64 (hasV L k), .bool (hasB L k)]) ∧ w = w' := by
  have H := Lib.hid (mayR_any p g k 0 L w h)
  cases hk : okB L.length k 0 with
  | false =>
    rw [show hasV L k = 0 by simp [hasV, hasB, hk], show hasB L k = false by simp [hasB, hk]]
    rw [hk] at H
    clear hk h
    go_enter Try.func21, Try.ntmps21
    go_wp2_with (go_at_call 26; refine H.out.mono ?_; rintro e w' ⟨rfl, rfl⟩)
    go_ret2
    exact ⟨rfl, rfl⟩
  | true =>
    rw [hk] at H
    obtain ⟨k, rfl, hlt, ht1, ht2⟩ := okB_nat hk
    obtain ⟨c, cur, a1, a2, h3, h4, h5, h6⟩ := h.ex
    have hl := h.len
    have hp := a1.cell 0
    simp at hp
    have hg := a2.cell k
    rw [cur_at h6 k hlt] at hg
    rcases h.st k hlt with hs | hs
    · rw [show hasB L k = false by simp only [hasB, hk, Int.toNat_natCast, hs]; simp, show hasV L k = 0 by simp only [hasV, hasB, hk, Int.toNat_natCast, hs]; simp]
      rw [hs] at hg
      clear h hs a1 a2 h6 hk
      go_enter Try.func21, Try.ntmps21
      go_wp2_with (go_at_call 26; refine H.out.mono ?_; rintro e w' ⟨rfl, rfl⟩)
      go_ret2
      exact ⟨rfl, rfl⟩
    · have hne : ¬ L.getD k 0 = -1 := by omega
      have hb : hasB L k = true := by simp only [hasB, hk, Int.toNat_natCast, ne_eq, hne, not_false_eq_true, decide_true, Bool.and_self]
      rw [show hasV L k = L.getD k 0 by simp only [hasV, hb, Int.toNat_natCast]; simp, hb]
      clear h a1 a2 h6 hk hb hne
      generalize L.getD k 0 = s at *
      go_enter Try.func21, Try.ntmps21
      go_wp2_with (go_at_call 26; refine H.out.mono ?_; rintro e w' ⟨rfl, rfl⟩)
      go_ret2
      exact ⟨rfl, rfl⟩
theorem lenR_any (p g : Nat) (L : List Int) (w : World) (h : LatR w p g L) :
   Calls Try.prog 23 #[.pointer (some ⟨p, 0, none⟩)] w fun e w' => e = .returned (.int .i64 L.length) ∧ w = w' := by
  obtain ⟨c, cur, a1, a2, h3, h4, h5, h6⟩ := h.ex
  have hl := h.len
  have hp := a1.cell 0
  simp at hp
  clear a1 a2 h6 h
  go_enter Try.func23, Try.ntmps23
  go_wp2
  go_ret
  exact ⟨rfl, rfl⟩
theorem takenR_any (p g : Nat) (L : List Int) (w : World) (h : LatR w p g L) :
   Calls Try.prog 24 #[.pointer (some ⟨p, 0, none⟩)] w fun e w' => e = .returned (.int .i64 (cnt L L.length)) ∧ w = w' := by
  obtain ⟨c, cur, a1, a2, h3, h4, h5, h6⟩ := h.ex
  have hl := h.len
  have hp := a1.cell 0
  simp at hp
  have HG := Lib.hid a2
  have H6 := Lib.hid h6
  have HS := Lib.hid h.st
  clear a1 a2 h6 h
  go_enter Try.func24, Try.ntmps24
  go_wp2
  go_loop [3, 4] (fun r i => ∃ k : Nat, k ≤ L.length ∧ i = .int .i64 k ∧ r = .int .i64 (cnt L k)) (fun _ i => L.length - (intOf i).toNat)
  case atStart => exact ⟨0, Nat.zero_le _, rfl, rfl⟩
  case round =>
    obtain ⟨k, hk, rfl, rfl⟩ := hrel
    have hcl := cnt_le L k
    by_cases hlt : k < L.length
    · have hg := HG.out.cell k
      rw [cur_at H6.out k hlt] at hg
      rcases HS.out k hlt with hs | hs
      · have E := Lib.hid (show cnt L (k+1) = cnt L k by rw [cnt, if_pos hs]; rfl)
        rw [hs] at hg
        clear hs
        go_wp2
        go_round
        case rel => exact ⟨k+1, by omega, by go_num, by rw [E.out]⟩
        case measure => simp [intOf]; omega
      · have E := Lib.hid (show cnt L (k+1) = cnt L k + 1 by rw [cnt, if_neg (by omega)])
        generalize L.getD k 0 = s at *
        go_wp2
        go_round
        case rel => exact ⟨k+1, by omega, by go_num, by rw [E.out]; go_num⟩
        case measure => simp [intOf]; omega
    · go_wp2
      go_ret
      have : k = L.length := by omega
      subst this
      exact ⟨rfl, rfl⟩
theorem heldR_any (p g : Nat) (t : Int) (L : List Int) (w : World) (h : LatR w p g L) :
   Calls Try.prog 22 #[.pointer (some ⟨p, 0, none⟩), .int .i64 t] w fun e w' => ∃ v, e = .returned v ∧ w'.ownsRow w.heap.size 3 1 v (heldK L t L.length).length ((heldK L t L.length).map (Value.int .i64)) ∧ Below w.heap.size w w' := by
  obtain ⟨c, cur, a1, a2, h3, h4, h5, h6⟩ := h.ex
  have hl := h.len
  have hp := a1.cell 0
  simp at hp
  have hpl := a1.lt
  have hgl := a2.lt
  have HG := Lib.hid a2
  have H6 := Lib.hid h6
  have HS := Lib.hid h.st
  clear a1 a2 h6 h
  obtain ⟨i0, hi, hz0, hz1, hz2⟩ := info_parts info3
  go_enter Try.func22, Try.ntmps22
  go_wp2
  go_loopw [5, 6] (fun r i wr => ∃ k : Nat, k ≤ L.length ∧ i = .int .i64 k ∧ wr.ownsRow w.heap.size 3 1 r (heldK L t k).length ((heldK L t k).map (Value.int .i64)) ∧ Below w.heap.size w wr) (fun _ i _ => L.length - (intOf i).toNat)
  case atStart => exact ⟨0, Nat.zero_le _, rfl, World.ownsRow_nil _ _ _ _, Below.refl _ _⟩
  case round =>
    obtain ⟨k, hk, rfl, hown, hbel⟩ := hrel
    have hhl := heldK_len L t k
    have hsz := hbel.size
    have hc1 := (hbel.cell (p := ⟨p, 0, none⟩) hpl).trans hp
    by_cases hlt : k < L.length
    · have hcg := (hbel.cell (p := ⟨g, k, none⟩) hgl).trans (HG.out.cell k)
      rw [cur_at H6.out k hlt] at hcg
      by_cases hst : L.getD k 0 ≠ -1 ∧ L.getD k 0 = t
      · have E := Lib.hid (show heldK L t (k+1) = heldK L t k ++ [(k:Int)] by rw [heldK, if_pos hst])
        have e0 : 0 ≤ L.getD k 0 := by rcases HS.out k hlt with h | h <;> omega
        have e' : (L.getD k 0 == t) = true := by simpa using hst.2
        clear hst
        generalize L.getD k 0 = s at *
        go_wp2_with (at_builtin; refine wpList_append_own _ rfl _ _ 29 rfl (w.heap.size) 3 i0 (.int .i64 0) 1 8 Try.underlying29 hi hz0 hz1 hz2 rfl (by decide) _ _ _ rfl (hown.alloc _) ⟨wr.heap.size, 0, none⟩ 1 1 [.int .i64 k] rfl rfl ?c1 ?c2 ?c3 ?c4 ?c5 ?_)
        case c1 => exact cell_one_new _ _ _
        case c2 => simp [Value.oneCell']
        case c3 => simp only [maxLen]; omega
        case c4 => omega
        case c5 => simp; omega
        intro v' w1 hown1 hg1 _
        have hb1 : Below w.heap.size w w1 := (hbel.alloc hsz _).grown hg1 (by simp; omega) (fun q hq => (hown.lt q hq).1)
        clear hg1 hown hbel
        go_wp2
        go_roundw
        case rel => exact ⟨k+1, by omega, by go_num, by rw [E.out]; simpa using hown1, hb1⟩
        case measure => simp [intOf]; omega
      · have E := Lib.hid (show heldK L t (k+1) = heldK L t k by rw [heldK, if_neg hst]; simp)
        rcases HS.out k hlt with hs | hs
        · rw [hs] at hcg
          clear hst hs
          go_wp2
          go_roundw
          case rel => exact ⟨k+1, by omega, by go_num, by rw [E.out]; exact hown, hbel⟩
          case measure => simp [intOf]; omega
        · have e' : (L.getD k 0 == t) = false := by rw [beq_eq_false_iff_ne]; intro e; exact hst ⟨by omega, e⟩
          clear hst
          generalize L.getD k 0 = s at *
          go_wp2
          go_roundw
          case rel => exact ⟨k+1, by omega, by go_num, by rw [E.out]; exact hown, hbel⟩
          case measure => simp [intOf]; omega
    · go_wp2
      go_ret
      have : k = L.length := by omega
      subst this
      exact ⟨_, rfl, hown, hbel⟩
theorem newR_bad (n : Int) (w : World) (h : n < 1 ∨ 16 < n) : Calls Try.prog 18 #[.int .i64 n] w fun e w' => e = .returned (.tuple #[.pointer none, .int .i64 2]) ∧ w = w' := by
  rcases h with h | h
  · go_enter Try.func18, Try.ntmps18
    go_wp2
    go_ret2
    exact ⟨rfl, rfl⟩
  · have : ¬ n < 1 := by omega
    go_enter Try.func18, Try.ntmps18
    go_wp2
    go_ret2
    exact ⟨rfl, rfl⟩
def replC (n : Nat) : List Int := List.replicate n (-1)
theorem replC_snoc (n : Nat) : replC (n + 1) = replC n ++ [-1] := by simp [replC, List.replicate_succ']
theorem newR_ok (n : Nat) (w : World) (h1 : 1 ≤ n) (h2 : n ≤ 16) : Calls Try.prog 18 #[.int .i64 n] w fun e w' => ∃ p g, e = .returned (.tuple #[.pointer (some ⟨p, 0, none⟩), .int .i64 0]) ∧ LatR w' p g (replC n) ∧ w.heap.size ≤ p ∧ w.heap.size ≤ g ∧ Below w.heap.size w w' := by
  obtain ⟨i0, hi, hz0, hz1, hz2⟩ := info_parts info3
  go_enter Try.func18, Try.ntmps18
  go_wp2
  have hb0 : Blk (w.alloc (Obj.cells #[Value.slice none 0 0] 53)) w.heap.size 53 #[.slice none 0 0] := Blk.new w 53 _
  have hl0 := Lib.hid ((Below.refl w.heap.size w).alloc (Nat.le_refl _) (Obj.cells #[Value.slice none 0 0] 53))
  replace hb0 := Lib.hid hb0
  generalize hp : w.heap.size = p at *
  replace hp := Lib.hid hp
  go_loopw [5] (fun i wr => ∃ k : Nat, k ≤ n ∧ i = .int .i64 k ∧ Hid (∃ v, Blk wr p 53 #[v] ∧ wr.ownsRow (p + 1) 3 1 v k ((replC k).map (Value.int .i64))) ∧ Hid (Below p w wr)) (fun i _ => n - (intOf i).toNat)
  case atStart => exact ⟨0, Nat.zero_le _, rfl, ⟨_, hb0.out, World.ownsRow_nil _ _ _ _⟩, hl0.out⟩
  case round =>
    clear hb0 hl0
    obtain ⟨k, hk, rfl, ⟨v, hb, hown⟩, hbel⟩ := hrel
    have hlt0 := hb.lt
    have hc := hb.cell 0
    have hf := hb.frozen 0
    simp at hc
    replace hb := Lib.hid hb
    by_cases hlt : k < n
    · go_wp2_with (at_builtin; refine wpList_append_own _ rfl _ _ 29 rfl (p + 1) 3 i0 (.int .i64 0) 1 8 Try.underlying29 hi hz0 hz1 hz2 rfl (by decide) _ _ _ rfl (hown.alloc _) ⟨wr.heap.size, 0, none⟩ 1 1 [.int .i64 (-1)] rfl rfl ?c1 ?c2 ?c3 ?c4 ?c5 ?_)
      case c1 => exact cell_one_new _ _ _
      case c2 => simp [Value.oneCell']
      case c3 => simp only [maxLen]; omega
      case c4 => omega
      case c5 => simp; omega
      intro v' w1 hown1 hg1 _
      obtain ⟨av, cv, rfl⟩ := own_slice hown1
      have hne : some p ≠ v.ownBlock := fun e => by have := (hown.lt p e.symm).1; omega
      have hb1 := (hb.out.alloc (Obj.cells #[.int .i64 (-1)] 3)).grown hg1 hne
      have hbel1 : Hid (Below p w w1) := (hbel.out.alloc (Nat.le_of_lt hlt0) _).grown hg1 (by simp; omega) (fun q hq => by have := (hown.lt q hq).1; omega)
      have hc1 := hb1.cell 0
      have hf1 := hb1.frozen 0
      simp at hc1
      have E := Lib.hid (replC_snoc k)
      have fin := Lib.hid (show ∃ u, Blk (w1.setCell ⟨p, 0, none⟩ (.slice av (k + 1) cv)) p 53 #[u] ∧ (w1.setCell ⟨p, 0, none⟩ (.slice av (k + 1) cv)).ownsRow (p + 1) 3 1 u (k + 1) ((replC (k + 1)).map (Value.int .i64)) from
        ⟨_, by simpa using hb1.set_ 0 (.slice av (k + 1) cv), ownsRow_setCell_below (by rw [E.out]; simpa using hown1) (by exact Nat.lt_succ_self p) _⟩)
      have fin2 := Lib.hid (hbel1.out.setCell (p := ⟨p, 0, none⟩) (Nat.le_refl _) (.slice av (k + 1) cv))
      clear hg1 hown hbel hb hc hf hown1 hb1 hne
      go_wp2
      go_roundw
      case rel => exact ⟨k+1, by omega, by go_num, fin, fin2⟩
      case measure => simp [intOf]; omega
    · obtain rfl : k = n := by omega
      have hr := (show wr.ownsRow (p + 1) 3 1 v k ((replC k).map (Value.int .i64)) from hown).2
      rcases hr with ⟨_, h0⟩ | ⟨g, c, cur, rfl, hg1, hg2, hkc, hcm, hcs, ht⟩
      · omega
      · have hlk : (replC k).length = k := by simp [replC]
        have fin : Hid (LatR wr p g (replC k)) := ⟨⟨c, cur, by rw [hlk]; exact hb.out, hg2, by omega, hcm, by omega, by rw [hlk]; simpa using ht⟩, by omega, fun j hj => .inl (by simp [replC] at hj ⊢; simp [List.getD, hj])⟩
        clear hown hg2 ht hcs hlk
        go_wp2
        go_ret2
        exact ⟨_, _, rfl, fin.out, by have := hp.out; omega, by have := hp.out; omega, by rw [hp.out]; exact hbel.out⟩
end Go.Proofs.Ytidhhadelgdeiaa
