/-
  The contracts of the parker's methods over a list of states (0 goes, 1 parked, 2 has a token). No condition beside a parker that reads so.
-/
import Derived.Test.YtioaghkafomibaaPick
import Derived.Test.YtioaghkafomibaaSame
namespace Go.Proofs.Ytioaghkafomibaa
open Go.RowKit

def cellsOf (L : List Int) : Array Value := (L.map (Value.int .i64)).toArray
theorem cellsOf_at (L : List Int) (k : Nat) (h : k < L.length) : (cellsOf L)[k]? = some (.int .i64 (L.getD k 0)) := by simp [cellsOf, h, List.getD]
theorem cellsOf_set (L : List Int) (k : Nat) (t : Int) : (cellsOf L).setIfInBounds k (.int .i64 t) = cellsOf (L.set k t) := by
  apply Array.toList_inj.1
  simp [cellsOf, List.map_set]

/-- A parker at p, its row at g; L: what each thread is. -/
structure Par (w : World) (p g : Nat) (L : List Int) : Prop where
  hp : Blk w p 47 #[.slice (some ⟨g, 0, none⟩) L.length L.length]
  hg : Blk w g 3 (cellsOf L)
  len : L.length ≤ 8
  st : ∀ k, k < L.length → L.getD k 0 = 0 ∨ L.getD k 0 = 1 ∨ L.getD k 0 = 2

theorem getD_set (L : List Int) (k j : Nat) (t : Int) (h : k < L.length) : (L.set k t).getD j 0 = if k = j then t else L.getD j 0 := by
  by_cases e : k = j
  · subst e; simp [List.getD, h]
  · simp [List.getD, List.getElem?_set, e]
theorem Par.grown {w w' : World} {p g g' : Nat} {L : List Int} (h : Par w p g L) (hb : w.grownBy w' (some g')) (h1 : p ≠ g') (h2 : g ≠ g') : Par w' p g L :=
  ⟨h.hp.grown hb (fun e => by injection e with e; exact h1 e), h.hg.grown hb (fun e => by injection e with e; exact h2 e), h.len, h.st⟩
theorem Par.below {w w' : World} {p g : Nat} {L : List Int} (h : Par w p g L) (hb : Below w.heap.size w w') : Par w' p g L :=
  ⟨h.hp.below' hb, h.hg.below' hb, h.len, h.st⟩
theorem Par.drewN {w : World} {p g : Nat} {L : List Int} (h : Par w p g L) (n : Nat) : Par (w.drewN n) p g L := ⟨h.hp, h.hg, h.len, h.st⟩
theorem Par.store {w : World} {p g : Nat} {L : List Int} (h : Par w p g L) (k : Nat) (hk : k < L.length) (s : Int) (hs : s = 0 ∨ s = 1 ∨ s = 2) : Par (w.setCell ⟨g, k, none⟩ (.int .i64 s)) p g (L.set k s) := by
  refine ⟨?_, ?_, by simpa using h.len, fun j hj => ?_⟩
  · rw [List.length_set]; exact h.hp.far (by exact h.hp.ne_ h.hg (by decide)) _
  · rw [← cellsOf_set]; exact h.hg.set_ k _
  · rw [getD_set _ _ _ _ hk]
    split
    · exact hs
    · exact h.st j (by simpa using hj)

def okT (L : List Int) (t : Int) : Bool := decide (0 ≤ t ∧ t < L.length)
def isB (L : List Int) (t b : Int) : Bool := okT L t && decide (L.getD t.toNat 0 = b)
def parkC (L : List Int) (t : Int) : Int := if okT L t = false then 2 else if L.getD t.toNat 0 = 1 then 4 else 0
def parkS (L : List Int) (t : Int) : List Int := if okT L t = false then L else if L.getD t.toNat 0 = 1 then L else if L.getD t.toNat 0 = 2 then L.set t.toNat 0 else L.set t.toNat 1
def unC (L : List Int) (t : Int) : Int := if okT L t = false then 2 else 0
def unS (L : List Int) (t : Int) : List Int := if okT L t = false then L else if L.getD t.toNat 0 = 1 then L.set t.toNat 0 else L.set t.toNat 2
def dropS (L : List Int) (t : Int) : List Int := if isB L t 2 = true then L.set t.toNat 0 else L

theorem wrong_any (p g : Nat) (t : Int) (L : List Int) (w : World) (h : Par w p g L) :
   Calls Try.prog 29 #[.pointer (some ⟨p, 0, none⟩), .int .i64 t] w fun e w' => e = .returned (.int .i64 (unC L t)) ∧ w = w' := by
  have hl := h.len
  have hc := h.hp.cell 0
  simp at hc
  unfold unC okT
  clear h
  by_cases h1 : 0 ≤ t
  · by_cases h2 : t < L.length
    · rw [if_neg (by simp [h1, h2])]
      go_enter Try.func29, Try.ntmps29
      go_wp2
      go_ret
      exact ⟨rfl, rfl⟩
    · rw [if_pos (by simp [h2])]
      go_enter Try.func29, Try.ntmps29
      go_wp2
      go_ret
      exact ⟨rfl, rfl⟩
  · rw [if_pos (by simp [h1])]
    go_enter Try.func29, Try.ntmps29
    go_wp2
    go_ret
    exact ⟨rfl, rfl⟩
theorem wrong_nil (t : Int) (w : World) :
   Calls Try.prog 29 #[.pointer none, .int .i64 t] w fun e w' => e = .returned (.int .i64 1) ∧ w = w' := by
  go_enter Try.func29, Try.ntmps29
  go_wp2
  go_ret
  exact ⟨rfl, rfl⟩
theorem unC_ok {L : List Int} {t : Int} (h : okT L t = true) : unC L t = 0 := by simp [unC, h]
theorem unC_bad {L : List Int} {t : Int} (h : okT L t = false) : unC L t = 2 := by simp [unC, h]
theorem okT_nat {L : List Int} {t : Int} (h : okT L t = true) : ∃ k : Nat, t = k ∧ k < L.length := by
  simp [okT] at h
  obtain ⟨k, rfl⟩ := Int.eq_ofNat_of_zero_le h.1
  exact ⟨k, rfl, by omega⟩

theorem is_any (p g : Nat) (t b : Int) (hb : b = 1 ∨ b = 2) (L : List Int) (w : World) (h : Par w p g L) :
   Calls Try.prog 28 #[.pointer (some ⟨p, 0, none⟩), .int .i64 t, .int .i64 b] w fun e w' => e = .returned (.bool (isB L t b)) ∧ w = w' := by
  have H := wrong_any p g t L w h
  cases hk : okT L t with
  | false =>
    rw [unC_bad hk] at H
    replace H := Lib.hid H
    have e : isB L t b = false := by simp [isB, hk]
    rw [e]
    clear h hk e hb
    go_enter Try.func28, Try.ntmps28
    go_wp2_with (go_at_call 29; refine H.out.mono ?_; rintro e w' ⟨rfl, rfl⟩)
    go_ret
    exact ⟨rfl, rfl⟩
  | true =>
    rw [unC_ok hk] at H
    replace H := Lib.hid H
    obtain ⟨k, rfl, hlt⟩ := okT_nat hk
    have hc := h.hp.cell 0
    simp at hc
    have hcg := h.hg.cell k
    rw [cellsOf_at L k hlt] at hcg
    have hl := h.len
    have hst := h.st k hlt
    have e : isB L k b = decide (L.getD k 0 = b) := by simp [isB, hk]
    rw [e]
    clear h hk e
    generalize L.getD k 0 = s at *
    rcases hst with rfl | rfl | rfl <;> rcases hb with rfl | rfl
    all_goals
      go_enter Try.func28, Try.ntmps28
      go_wp2_with (go_at_call 29; refine H.out.mono ?_; rintro e w' ⟨rfl, rfl⟩)
      go_ret
      exact ⟨by first | rfl | (simp; done) | (simp; decide), rfl⟩

theorem parked_any (p g : Nat) (t : Int) (L : List Int) (w : World) (h : Par w p g L) :
   Calls Try.prog 10 #[.pointer (some ⟨p, 0, none⟩), .int .i64 t] w fun e w' => e = .returned (.bool (isB L t 1)) ∧ w = w' := by
  have H := Lib.hid (is_any p g t 1 (.inl rfl) L w h)
  clear h
  go_enter Try.func10, Try.ntmps10
  go_wp2_with (go_at_call 28; refine H.out.mono ?_; rintro e w' ⟨rfl, rfl⟩)
  go_ret
  exact ⟨rfl, rfl⟩
theorem token_any (p g : Nat) (t : Int) (L : List Int) (w : World) (h : Par w p g L) :
   Calls Try.prog 11 #[.pointer (some ⟨p, 0, none⟩), .int .i64 t] w fun e w' => e = .returned (.bool (isB L t 2)) ∧ w = w' := by
  have H := Lib.hid (is_any p g t 2 (.inr rfl) L w h)
  clear h
  go_enter Try.func11, Try.ntmps11
  go_wp2_with (go_at_call 28; refine H.out.mono ?_; rintro e w' ⟨rfl, rfl⟩)
  go_ret
  exact ⟨rfl, rfl⟩
theorem isB_nat {L : List Int} {t b : Int} (h : isB L t b = true) : ∃ k : Nat, t = k ∧ k < L.length ∧ L.getD k 0 = b := by
  simp only [isB, Bool.and_eq_true, decide_eq_true_eq] at h
  obtain ⟨k, rfl, hk⟩ := okT_nat h.1
  exact ⟨k, rfl, hk, by simpa using h.2⟩

theorem drop_any (p g : Nat) (t : Int) (L : List Int) (w : World) (h : Par w p g L) :
   Calls Try.prog 16 #[.pointer (some ⟨p, 0, none⟩), .int .i64 t] w fun e w' => e = .returned (.bool (isB L t 2)) ∧ Par w' p g (dropS L t) ∧ w.grownBy w' (some g) := by
  have H := Lib.hid (token_any p g t L w h)
  cases hk : isB L t 2 with
  | false =>
    have e : dropS L t = L := by simp [dropS, hk]
    rw [e]
    have h' := Lib.hid h
    clear h e
    go_enter Try.func16, Try.ntmps16
    go_wp2_with (go_at_call 11; refine H.out.mono ?_; rintro e w' ⟨rfl, rfl⟩)
    go_ret
    exact ⟨rfl, h'.out, grown_refl _ _⟩
  | true =>
    obtain ⟨k, rfl, hlt, hs⟩ := isB_nat hk
    have e : dropS L k = L.set k 0 := by simp [dropS, hk]
    rw [e]
    have h' := Lib.hid h
    have hc := h.hp.cell 0
    simp at hc
    have hcg := h.hg.cell k
    rw [cellsOf_at L k hlt, hs] at hcg
    have hl := h.len
    have hf := h.hg.frozen k
    have eb : bits BinOp.andNot .i64 2 2 = 0 := by decide
    clear h e hs
    go_enter Try.func16, Try.ntmps16
    go_wp2_with (go_at_call 11; refine H.out.mono ?_; rintro e w' ⟨rfl, rfl⟩)
    go_ret
    exact ⟨rfl, h'.out.store k hlt 0 (.inl rfl), grown_setCell⟩

theorem park_any (p g : Nat) (t : Int) (L : List Int) (w : World) (h : Par w p g L) :
   Calls Try.prog 12 #[.pointer (some ⟨p, 0, none⟩), .int .i64 t] w fun e w' => e = .returned (.tuple #[.bool (isB L t 2), .int .i64 (parkC L t)]) ∧ Par w' p g (parkS L t) ∧ w.grownBy w' (some g) := by
  have H := wrong_any p g t L w h
  have HI := Lib.hid (is_any p g t 1 (.inl rfl) L w h)
  have HD := Lib.hid (drop_any p g t L w h)
  cases hk : okT L t with
  | false =>
    rw [unC_bad hk] at H
    replace H := Lib.hid H
    have e1 : isB L t 2 = false := by simp [isB, hk]
    have e2 : parkC L t = 2 := by simp [parkC, hk]
    have e3 : parkS L t = L := by simp [parkS, hk]
    rw [e1, e2, e3]
    have h' := Lib.hid h
    clear h e1 e2 e3 hk
    go_enter Try.func12, Try.ntmps12
    go_wp2_with (go_at_call 29; refine H.out.mono ?_; rintro e w' ⟨rfl, rfl⟩)
    go_ret2
    exact ⟨rfl, h'.out, grown_refl _ _⟩
  | true =>
    rw [unC_ok hk] at H
    replace H := Lib.hid H
    obtain ⟨k, rfl, hlt⟩ := okT_nat hk
    have hs := h.st k hlt
    have h' := Lib.hid h
    have hc := h.hp.cell 0
    simp at hc
    have hcg := h.hg.cell k
    rw [cellsOf_at L k hlt] at hcg
    have hl := h.len
    have hf := h.hg.frozen k
    have e0 : isB L k 1 = decide (L.getD k 0 = 1) := by simp [isB, hk]
    have e1 : isB L k 2 = decide (L.getD k 0 = 2) := by simp [isB, hk]
    have e2 : parkC L k = if L.getD k 0 = 1 then 4 else 0 := by simp only [parkC, hk, Int.toNat_natCast]; simp
    have e3 : parkS L k = if L.getD k 0 = 1 then L else if L.getD k 0 = 2 then L.set k 0 else L.set k 1 := by simp only [parkS, hk, Int.toNat_natCast]; simp
    have e4 : dropS L k = if L.getD k 0 = 2 then L.set k 0 else L := by simp only [dropS, e1, decide_eq_true_eq, Int.toNat_natCast]
    rcases hs with hs | hs | hs
    · have hs0 := Lib.hid hs
      rw [hs] at e0 e1 e2 e3 hcg e4
      simp at e0 e1 e2 e3 e4
      have E3 := Lib.hid e3
      rw [e4, e1] at HD
      rw [e1, e2]
      have eb : bits BinOp.or .i64 0 1 = 1 := by decide
      clear h e1 e2 e3 e4 hk hs
      go_enter Try.func12, Try.ntmps12
      go_wp2_with fail
      refine H.out.mono ?_
      rintro e w' ⟨rfl, rfl⟩
      go_wp2_with fail
      refine HI.out.mono ?_
      rintro e w' ⟨rfl, rfl⟩
      go_wp2_with fail
      refine HD.out.mono ?_
      rintro e w1 ⟨rfl, h1, hg1⟩
      have hc1 := h1.hp.cell 0
      simp at hc1
      have hf1 := h1.hg.frozen k
      have hcg1 := h1.hg.cell k
      rw [cellsOf_at L k hlt, hs0.out] at hcg1
      replace h1 := Lib.hid h1
      replace hg1 := Lib.hid hg1
      clear hcg hc hf
      go_wp2_with fail
      go_ret2
      exact ⟨rfl, by rw [E3.out]; exact h1.out.store k hlt 1 (.inr (.inl rfl)), grown_trans hg1.out grown_setCell⟩
    · rw [hs] at e0 e1 e2 e3 hcg e4
      simp at e0 e1 e2 e3 e4
      have E3 := Lib.hid e3
      rw [e1, e2]
      clear h e1 e2 e3 e4 hk hs
      go_enter Try.func12, Try.ntmps12
      go_wp2_with fail
      refine H.out.mono ?_
      rintro e w' ⟨rfl, rfl⟩
      go_wp2_with fail
      refine HI.out.mono ?_
      rintro e w' ⟨rfl, rfl⟩
      go_wp2_with fail
      go_ret2
      exact ⟨rfl, by rw [E3.out]; exact h'.out, grown_refl _ _⟩
    · rw [hs] at e0 e1 e2 e3 hcg e4
      simp at e0 e1 e2 e3 e4
      have E3 := Lib.hid e3
      rw [e4, e1] at HD
      rw [e1, e2]
      clear h e1 e2 e3 e4 hk hs
      go_enter Try.func12, Try.ntmps12
      go_wp2_with fail
      refine H.out.mono ?_
      rintro e w' ⟨rfl, rfl⟩
      go_wp2_with fail
      refine HI.out.mono ?_
      rintro e w' ⟨rfl, rfl⟩
      go_wp2_with fail
      refine HD.out.mono ?_
      rintro e w1 ⟨rfl, h1, hg1⟩
      replace h1 := Lib.hid h1
      replace hg1 := Lib.hid hg1
      go_wp2_with fail
      go_ret2
      exact ⟨rfl, by rw [E3.out]; exact h1.out, hg1.out⟩

theorem unpark_any (p g : Nat) (t : Int) (L : List Int) (w : World) (h : Par w p g L) :
   Calls Try.prog 13 #[.pointer (some ⟨p, 0, none⟩), .int .i64 t] w fun e w' => e = .returned (.tuple #[.bool (isB L t 1), .int .i64 (unC L t)]) ∧ Par w' p g (unS L t) ∧ w.grownBy w' (some g) := by
  have H := wrong_any p g t L w h
  have HI := Lib.hid (is_any p g t 1 (.inl rfl) L w h)
  cases hk : okT L t with
  | false =>
    rw [unC_bad hk] at H
    replace H := Lib.hid H
    have e1 : isB L t 1 = false := by simp [isB, hk]
    have e2 := unC_bad hk
    have e3 : unS L t = L := by simp [unS, hk]
    rw [e1, e2, e3]
    have h' := Lib.hid h
    clear h e1 e2 e3 hk
    go_enter Try.func13, Try.ntmps13
    go_wp2_with (go_at_call 29; refine H.out.mono ?_; rintro e w' ⟨rfl, rfl⟩)
    go_ret2
    exact ⟨rfl, h'.out, grown_refl _ _⟩
  | true =>
    rw [unC_ok hk] at H
    replace H := Lib.hid H
    obtain ⟨k, rfl, hlt⟩ := okT_nat hk
    have hs := h.st k hlt
    have h' := Lib.hid h
    have hc := h.hp.cell 0
    simp at hc
    have hcg := h.hg.cell k
    rw [cellsOf_at L k hlt] at hcg
    have hl := h.len
    have hf := h.hg.frozen k
    have e0 : isB L k 1 = decide (L.getD k 0 = 1) := by simp [isB, hk]
    have e2 := unC_ok hk
    have e3 : unS L k = if L.getD k 0 = 1 then L.set k 0 else L.set k 2 := by simp only [unS, hk, Int.toNat_natCast]; simp
    have eb0 : bits BinOp.or .i64 0 2 = 2 := by decide
    have eb1 : bits BinOp.andNot .i64 1 1 = 0 := by decide
    have eb2 : bits BinOp.or .i64 2 2 = 2 := by decide
    rcases hs with hs | hs | hs
    all_goals
      rw [hs] at e0 e3 hcg
      simp at e0 e3
      have E3 := Lib.hid e3
      rw [e2]
      rw [e0] at HI ⊢
      clear h e0 e2 e3 hk hs
      go_enter Try.func13, Try.ntmps13
      go_wp2_with fail
      refine H.out.mono ?_
      rintro e w' ⟨rfl, rfl⟩
      go_wp2_with fail
      refine HI.out.mono ?_
      rintro e w' ⟨rfl, rfl⟩
      go_wp2_with fail
      go_ret2
      exact ⟨rfl, by rw [E3.out]; exact h'.out.store k hlt _ (by simp), grown_setCell⟩
end Go.Proofs.Ytioaghkafomibaa
