import Derived.Test.YtidhhadelgdeiaaLib
namespace Go.Proofs.Ytidhhadelgdeiaa
open Go.RowKit

def okB (n : Nat) (k t : Int) : Bool := decide (0 ≤ k ∧ k < n ∧ 0 ≤ t ∧ t < 8)
theorem wrong_ok (p : Nat) (k t : Int) (n : Nat) (v : Addr) (w : World) (hn : n ≤ 16) (hp : Blk w p 48 #[.slice (some v) n n]) (hk : okB n k t = true) :
   Calls Try.prog 25 #[.pointer (some ⟨p, 0, none⟩), .int .i64 k, .int .i64 t] w fun e w' => e = .returned (.int .i64 0) ∧ w = w' := by
  have hc := hp.cell 0
  simp [okB] at hk
  obtain ⟨h1, h2, h3, h4⟩ := hk
  simp at hc
  clear hp
  go_enter Try.func25, Try.ntmps25
  go_wp2
  go_ret
  exact ⟨rfl, rfl⟩
theorem wrong_bad (p : Nat) (k t : Int) (n : Nat) (v : Addr) (w : World) (hn : n ≤ 16) (hp : Blk w p 48 #[.slice (some v) n n]) (hk : okB n k t = false) :
   Calls Try.prog 25 #[.pointer (some ⟨p, 0, none⟩), .int .i64 k, .int .i64 t] w fun e w' => e = .returned (.int .i64 2) ∧ w = w' := by
  have hc := hp.cell 0
  simp [okB] at hk
  simp at hc
  clear hp
  by_cases h1 : 0 ≤ k
  · by_cases h2 : k < n
    · by_cases h3 : 0 ≤ t
      · have h4 := hk h1 h2 h3
        clear hk
        go_enter Try.func25, Try.ntmps25
        go_wp2
        go_ret
        exact ⟨rfl, rfl⟩
      · clear hk
        go_enter Try.func25, Try.ntmps25
        go_wp2
        go_ret
        exact ⟨rfl, rfl⟩
    · clear hk
      go_enter Try.func25, Try.ntmps25
      go_wp2
      go_ret
      exact ⟨rfl, rfl⟩
  · clear hk
    go_enter Try.func25, Try.ntmps25
    go_wp2
    go_ret
    exact ⟨rfl, rfl⟩
theorem wrong_nil (k t : Int) (w : World) :
   Calls Try.prog 25 #[.pointer none, .int .i64 k, .int .i64 t] w fun e w' => e = .returned (.int .i64 1) ∧ w = w' := by
  go_enter Try.func25, Try.ntmps25
  go_wp2
  go_ret
  exact ⟨rfl, rfl⟩

theorem try_bad (p g : Nat) (k t : Int) (L : List Int) (w : World) (h : Lat w p g L) (hk : okB L.length k t = false) :
   Calls Try.prog 11 #[.pointer (some ⟨p, 0, none⟩), .int .i64 k, .int .i64 t] w fun e w' => e = .returned (.tuple #[.bool false, .int .i64 2]) ∧ w = w' := by
  have hp := h.hp
  have hl := h.len
  clear h
  have H := Lib.hid (wrong_bad p k t L.length _ w hl hp hk)
  clear hp hk
  go_enter Try.func11, Try.ntmps11
  go_wp2_with (go_at_call 25; refine H.out.mono ?_; rintro e w' ⟨rfl, rfl⟩)
  go_ret2
  exact ⟨rfl, rfl⟩


theorem grown_setCell {w : World} {g k : Nat} {v : Value} : w.grownBy (w.setCell ⟨g, k, none⟩ v) (some g) :=
  ⟨rfl, rfl, rfl, by simp [World.setCell], fun i hi hne => Below.heap_setCell _ _ _ _ (fun e => hne (by rw [e]))⟩
theorem grown_alloc {w w' : World} {r : Option Nat} (h : w.grownBy w' r) (o : Obj) : w.grownBy (w'.alloc o) r :=
  ⟨h.os, h.tape, h.output, Nat.le_trans h.size (by simp), fun i hi hne => (Below.heap_alloc w' o i (Nat.lt_of_lt_of_le hi h.size)).trans (h.block i hi hne)⟩
theorem grown_drewN {w w' : World} {r : Option Nat} (h : w.grownBy w' r) (n : Nat) : w.grownBy (w'.drewN n) r := ⟨h.os, h.tape, h.output, h.size, h.block⟩
theorem grown_trans {a b c : World} {r : Option Nat} (h : a.grownBy b r) (k : b.grownBy c r) : a.grownBy c r :=
  ⟨k.os.trans h.os, k.tape.trans h.tape, k.output.trans h.output, Nat.le_trans h.size k.size, fun i hi hne => (k.block i (Nat.lt_of_lt_of_le hi h.size) hne).trans (h.block i hi hne)⟩

theorem getD_lt {L : List Int} {k : Nat} (h : k < L.length) (d : Int) : L.getD k d = L[k] := by simp [List.getD, h]

theorem try_free (p g : Nat) (k : Nat) (t : Int) (L : List Int) (w : World) (h : Lat w p g L) (hk : okB L.length k t = true) (hf : L.getD k 0 = -1) :
   Calls Try.prog 11 #[.pointer (some ⟨p, 0, none⟩), .int .i64 k, .int .i64 t] w fun e w' => e = .returned (.tuple #[.bool true, .int .i64 0]) ∧ Lat w' p g (L.set k t) ∧ w.grownBy w' (some g) := by
  have hp := h.hp
  have hl := h.len
  obtain ⟨cs, hg, hs, hc⟩ := h.hg
  have hk' := hk
  simp [okB] at hk'
  obtain ⟨h1, h3, h4⟩ := hk'
  obtain ⟨v, hv, hlc⟩ := hc k h1
  have e0 : v = .pointer none := by
    rcases hlc with h | ⟨h0, _⟩
    · exact h.2
    · rw [getD_lt h1] at hf; omega
  subst e0
  have HW := Lib.hid (wrong_ok p k t L.length _ w hl hp hk)
  have fin : ∀ w', w' = (w.setCell ⟨g, k, none⟩ (.pointer (some ⟨w.heap.size, 0, none⟩))).alloc (.cells #[.int .i64 t] 51) → Lat w' p g (L.set k t) ∧ w.grownBy w' (some g) := by
    rintro w' rfl
    have hb : w.grownBy ((w.setCell ⟨g, k, none⟩ (.pointer (some ⟨w.heap.size, 0, none⟩))).alloc (.cells #[.int .i64 t] 51)) (some g) := grown_alloc grown_setCell _
    exact ⟨h.store hb k h1 _ t hg ((hg.set_ k _).alloc _) (.inr ⟨h3, _, rfl, by simpa [World.setCell] using Blk.new (w.setCell ⟨g, k, none⟩ (.pointer (some ⟨w.heap.size, 0, none⟩))) 51 #[.int .i64 t]⟩), hb⟩
  have Hfin := Lib.hid fin
  have hcp := hp.cell 0
  have hcg := hg.cell k
  have hfg := hg.frozen k
  have hgl := hg.lt
  rw [hv] at hcg
  simp at hcp
  clear hp hs hc hlc hk hf fin hv hg h hl
  go_enter Try.func11, Try.ntmps11
  go_wp2_with (go_at_call 25; refine HW.out.mono ?_; rintro e w' ⟨rfl, rfl⟩)
  go_ret2
  exact ⟨rfl, Hfin.out _ rfl⟩

def takenC (s t : Int) : Int := if s = t then 4 else 0
/-- Taken already: by itself (4) or by another one (0). -/
theorem try_taken (p g : Nat) (k : Nat) (t : Int) (L : List Int) (w : World) (h : Lat w p g L) (hk : okB L.length k t = true) (hf : L.getD k 0 ≠ -1) :
   Calls Try.prog 11 #[.pointer (some ⟨p, 0, none⟩), .int .i64 k, .int .i64 t] w fun e w' => e = .returned (.tuple #[.bool false, .int .i64 (takenC (L.getD k 0) t)]) ∧ w = w' := by
  have hp := h.hp
  have hl := h.len
  obtain ⟨cs, hg, hs, hc⟩ := h.hg
  have hk' := hk
  simp [okB] at hk'
  obtain ⟨h1, h3, h4⟩ := hk'
  obtain ⟨v, hv, hlc⟩ := hc k h1
  rw [getD_lt h1] at hf ⊢
  obtain ⟨h0, b, rfl, hbk⟩ : 0 ≤ L[k] ∧ ∃ h, v = .pointer (some ⟨h, 0, none⟩) ∧ Blk w h 51 #[.int .i64 L[k]] := by
    rcases hlc with h | h
    · exact absurd h.1 hf
    · exact h
  have HW := Lib.hid (wrong_ok p k t L.length _ w hl hp hk)
  have hcp := hp.cell 0
  have hcg := hg.cell k
  have hcb := hbk.cell 0
  rw [hv] at hcg
  simp at hcp hcb
  clear hp hs hc hlc hk hv hg h hl hbk hf
  generalize L[k] = s at *
  by_cases e : s = t
  · have e' : (s == t) = true := by simpa using e
    have E := Lib.hid e
    clear e
    go_enter Try.func11, Try.ntmps11
    go_wp2_with (go_at_call 25; refine HW.out.mono ?_; rintro e w' ⟨rfl, rfl⟩)
    go_ret2
    exact ⟨by rw [takenC, if_pos E.out]; rfl, rfl⟩
  · have e' : (s == t) = false := by simpa using e
    have E := Lib.hid e
    clear e
    go_enter Try.func11, Try.ntmps11
    go_wp2_with (go_at_call 25; refine HW.out.mono ?_; rintro e w' ⟨rfl, rfl⟩)
    go_ret2
    exact ⟨by rw [takenC, if_neg E.out]; rfl, rfl⟩

theorem free_bad (p g : Nat) (k t : Int) (L : List Int) (w : World) (h : Lat w p g L) (hk : okB L.length k t = false) :
   Calls Try.prog 12 #[.pointer (some ⟨p, 0, none⟩), .int .i64 k, .int .i64 t] w fun e w' => e = .returned (.int .i64 2) ∧ w = w' := by
  have hp := h.hp
  have hl := h.len
  clear h
  have H := Lib.hid (wrong_bad p k t L.length _ w hl hp hk)
  clear hp hk
  go_enter Try.func12, Try.ntmps12
  go_wp2_with (go_at_call 25; refine H.out.mono ?_; rintro e w' ⟨rfl, rfl⟩)
  go_ret
  exact ⟨rfl, rfl⟩

theorem free_own (p g : Nat) (k : Nat) (t : Int) (L : List Int) (w : World) (h : Lat w p g L) (hk : okB L.length k t = true) (hf : L.getD k 0 = t) :
   Calls Try.prog 12 #[.pointer (some ⟨p, 0, none⟩), .int .i64 k, .int .i64 t] w fun e w' => e = .returned (.int .i64 0) ∧ Lat w' p g (L.set k (-1)) ∧ w.grownBy w' (some g) := by
  have hp := h.hp
  have hl := h.len
  obtain ⟨cs, hg, hs, hc⟩ := h.hg
  have hk' := hk
  simp [okB] at hk'
  obtain ⟨h1, h3, h4⟩ := hk'
  obtain ⟨v, hv, hlc⟩ := hc k h1
  rw [getD_lt h1] at hf
  obtain ⟨h0, b, rfl, hbk⟩ : 0 ≤ L[k] ∧ ∃ h, v = .pointer (some ⟨h, 0, none⟩) ∧ Blk w h 51 #[.int .i64 L[k]] := by
    rcases hlc with h | h
    · omega
    · exact h
  have HW := Lib.hid (wrong_ok p k t L.length _ w hl hp hk)
  have fin : ∀ w', w' = w.setCell ⟨g, k, none⟩ (.pointer none) → Lat w' p g (L.set k (-1)) ∧ w.grownBy w' (some g) := by
    rintro w' rfl
    exact ⟨h.store grown_setCell k h1 _ (-1) hg (hg.set_ k _) (.inl ⟨rfl, rfl⟩), grown_setCell⟩
  have Hfin := Lib.hid fin
  have hcp := hp.cell 0
  have hcg := hg.cell k
  have hfg := hg.frozen k
  have hcb := hbk.cell 0
  rw [hv] at hcg
  rw [hf] at hcb
  simp at hcp hcb
  clear hp hs hc hlc hk hv hg h hl hbk hf fin
  go_enter Try.func12, Try.ntmps12
  go_wp2_with (go_at_call 25; refine HW.out.mono ?_; rintro e w' ⟨rfl, rfl⟩)
  go_ret
  exact ⟨rfl, Hfin.out _ rfl⟩

theorem free_not (p g : Nat) (k : Nat) (t : Int) (L : List Int) (w : World) (h : Lat w p g L) (hk : okB L.length k t = true) (hf : L.getD k 0 ≠ t) :
   Calls Try.prog 12 #[.pointer (some ⟨p, 0, none⟩), .int .i64 k, .int .i64 t] w fun e w' => e = .returned (.int .i64 6) ∧ w = w' := by
  have hp := h.hp
  have hl := h.len
  obtain ⟨cs, hg, hs, hc⟩ := h.hg
  have hk' := hk
  simp [okB] at hk'
  obtain ⟨h1, h3, h4⟩ := hk'
  obtain ⟨v, hv, hlc⟩ := hc k h1
  rw [getD_lt h1] at hf
  have HW := Lib.hid (wrong_ok p k t L.length _ w hl hp hk)
  have hcp := hp.cell 0
  have hcg := hg.cell k
  rw [hv] at hcg
  simp at hcp
  rcases hlc with ⟨h0, rfl⟩ | ⟨h0, b, rfl, hbk⟩
  · clear hp hs hc hk hv hg h hl hf h0
    go_enter Try.func12, Try.ntmps12
    go_wp2_with (go_at_call 25; refine HW.out.mono ?_; rintro e w' ⟨rfl, rfl⟩)
    go_ret
    exact ⟨rfl, rfl⟩
  · have hcb := hbk.cell 0
    simp at hcb
    have hne : (L[k] != t) = true := by simpa using hf
    clear hp hs hc hk hv hg h hl hbk hf
    generalize L[k] = s at *
    go_enter Try.func12, Try.ntmps12
    go_wp2_with (go_at_call 25; refine HW.out.mono ?_; rintro e w' ⟨rfl, rfl⟩)
    go_ret
    exact ⟨rfl, rfl⟩

theorem holder_bad (p g : Nat) (k : Int) (L : List Int) (w : World) (h : Lat w p g L) (hk : okB L.length k 0 = false) :
   Calls Try.prog 15 #[.pointer (some ⟨p, 0, none⟩), .int .i64 k] w fun e w' => e = .returned (.tuple #[.int .i64 0, .bool false]) ∧ w = w' := by
  have hp := h.hp
  have hl := h.len
  clear h
  have H := Lib.hid (wrong_bad p k 0 L.length _ w hl hp hk)
  clear hp hk
  go_enter Try.func15, Try.ntmps15
  go_wp2_with (go_at_call 25; refine H.out.mono ?_; rintro e w' ⟨rfl, rfl⟩)
  go_ret2
  exact ⟨rfl, rfl⟩

def holderR (s : Int) : Value := if s = -1 then .tuple #[.int .i64 0, .bool false] else .tuple #[.int .i64 s, .bool true]
theorem holder_ok (p g : Nat) (k : Nat) (L : List Int) (w : World) (h : Lat w p g L) (h1 : k < L.length) :
   Calls Try.prog 15 #[.pointer (some ⟨p, 0, none⟩), .int .i64 k] w fun e w' => e = .returned (holderR (L.getD k 0)) ∧ w = w' := by
  have hp := h.hp
  have hl := h.len
  obtain ⟨cs, hg, hs, hc⟩ := h.hg
  obtain ⟨v, hv, hlc⟩ := hc k h1
  rw [getD_lt h1]
  have HW := Lib.hid (wrong_ok p k 0 L.length _ w hl hp (by simp [okB]; omega))
  have hcp := hp.cell 0
  have hcg := hg.cell k
  rw [hv] at hcg
  simp at hcp
  rcases hlc with ⟨h0, rfl⟩ | ⟨h0, b, rfl, hbk⟩
  · have h0' := Lib.hid h0
    clear hp hs hc hv hg h hl h0
    go_enter Try.func15, Try.ntmps15
    go_wp2_with (go_at_call 25; refine HW.out.mono ?_; rintro e w' ⟨rfl, rfl⟩)
    go_ret2
    exact ⟨by rw [holderR, if_pos h0'.out]; rfl, rfl⟩
  · have hcb := hbk.cell 0
    simp at hcb
    clear hp hs hc hv hg h hl hbk
    generalize L[k] = s at *
    go_enter Try.func15, Try.ntmps15
    go_wp2_with (go_at_call 25; refine HW.out.mono ?_; rintro e w' ⟨rfl, rfl⟩)
    go_ret2
    exact ⟨by rw [holderR, if_neg (by omega)]; rfl, rfl⟩

theorem len_any (p g : Nat) (L : List Int) (w : World) (h : Lat w p g L) :
   Calls Try.prog 16 #[.pointer (some ⟨p, 0, none⟩)] w fun e w' => e = .returned (.int .i64 L.length) ∧ w = w' := by
  have hl := h.len
  have hcp := h.hp.cell 0
  simp at hcp
  clear h
  go_enter Try.func16, Try.ntmps16
  go_wp2
  go_ret
  exact ⟨rfl, rfl⟩

/-- How many of the first k are taken. -/
def cnt (L : List Int) : Nat → Nat
  | 0 => 0
  | k+1 => cnt L k + (if L.getD k 0 = -1 then 0 else 1)
theorem cnt_le (L : List Int) : ∀ k, cnt L k ≤ k
  | 0 => Nat.le_refl _
  | k+1 => by have := cnt_le L k; unfold cnt; split <;> omega
theorem taken_any (p g : Nat) (L : List Int) (w : World) (h : Lat w p g L) :
   Calls Try.prog 14 #[.pointer (some ⟨p, 0, none⟩)] w fun e w' => e = .returned (.int .i64 (cnt L L.length)) ∧ w = w' := by
  have hl := h.len
  have hp := h.hp.cell 0
  simp at hp
  obtain ⟨cs, hg, hs, hc⟩ := h.hg
  have HC := Lib.hid hc
  clear hc hs h
  have HG := Lib.hid hg
  clear hg
  go_enter Try.func14, Try.ntmps14
  go_wp2
  go_loop [2, 12] (fun r i => ∃ k : Nat, k ≤ L.length ∧ i = .int .i64 k ∧ r = .int .i64 (cnt L k)) (fun _ i => L.length - (intOf i).toNat)
  case atStart => exact ⟨0, Nat.zero_le _, rfl, rfl⟩
  case round =>
    obtain ⟨k, hk, rfl, rfl⟩ := hrel
    have hcl := cnt_le L k
    by_cases hlt : k < L.length
    · obtain ⟨v, hv, hlc⟩ := HC.out k hlt
      have hcg := HG.out.cell k
      rw [hv] at hcg
      clear hv
      rcases hlc with ⟨h0, rfl⟩ | ⟨h0, b, rfl, hbk⟩
      · have E := Lib.hid (show cnt L (k+1) = cnt L k by rw [cnt, getD_lt hlt, if_pos h0]; rfl)
        clear h0
        go_wp2
        go_round
        case rel => exact ⟨k+1, by omega, by go_num, by rw [E.out]⟩
        case measure => simp [intOf]; omega
      · have E := Lib.hid (show cnt L (k+1) = cnt L k + 1 by rw [cnt, getD_lt hlt, if_neg (by omega)])
        clear h0 hbk
        go_wp2
        go_round
        case rel => exact ⟨k+1, by omega, by go_num, by rw [E.out]; go_num⟩
        case measure => simp [intOf]; omega
    · go_wp2
      go_ret
      have : k = L.length := by omega
      subst this
      exact ⟨rfl, rfl⟩
end Go.Proofs.Ytidhhadelgdeiaa
