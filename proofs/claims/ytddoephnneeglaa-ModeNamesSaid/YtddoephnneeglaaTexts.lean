/-
  The contracts of Text and Read of package mode, and the walk of ModeTexts. No condition.
-/
import Derived.Test.YtddoephnneeglaaCallsB
import Derived.WalkLawsBesides
namespace Go.Proofs.Ytddoephnneeglaa
open Go.RowKit
theorem str_eq {s t : ByteArray} (h : s = t) : (s.toList == t.toList) = true := by rw [h]; simp
theorem str_ne {s t : ByteArray} (h : ¬ s = t) : (s.toList == t.toList) = false := by
  rw [beq_eq_false_iff_ne, Go.ByteArray.toList_eq, Go.ByteArray.toList_eq]
  intro e
  exact h (by cases s; cases t; simp at e; rw [e])
def nameL : List ByteArray := [⟨#[110, 111, 110, 101]⟩, ⟨#[73, 83]⟩, ⟨#[73, 88]⟩, ⟨#[83]⟩, ⟨#[83, 73, 88]⟩, ⟨#[85]⟩, ⟨#[88]⟩]
def nameArr : Array Value := (nameL.map Value.string).toArray
def textV (m : Int) : ByteArray := if knownB m = true then nameL.getD m.toNat ⟨#[63]⟩ else ⟨#[63]⟩
theorem names_t (w : World) : Calls Try.prog 24 #[] w fun e w' => e = .returned (.slice (some ⟨w.heap.size, 0, none⟩) 7 7) ∧ w' = w.alloc (.cells nameArr 9) := by
  go_enter Try.func24, Try.ntmps24
  go_wp2
  go_ret
  exact ⟨rfl, rfl⟩
theorem text_any (m : Int) (w : World) : Calls Try.prog 16 #[.int .i64 m] w fun e w' => e = .returned (.string (textV m)) ∧ Below w.heap.size w w' := by
  have HK := Lib.hid (known_any m w)
  have HN := Lib.hid (names_t w)
  cases hk : knownB m with
  | false =>
    rw [show textV m = ⟨#[63]⟩ by simp [textV, hk]]
    go_enter Try.func16, Try.ntmps16
    go_wp2_with (go_at_call 17; refine HK.out.mono ?_; rintro e w' ⟨rfl, rfl⟩)
    go_ret
    exact ⟨rfl, Below.refl _ _⟩
  | true =>
    obtain ⟨k, rfl, hlt⟩ := known_nat hk
    have hc := Lib.hid (show (w.alloc (.cells nameArr 9)).cell? ⟨w.heap.size, k, none⟩ = some (.string (textV k)) by
      rw [(Blk.new w 9 nameArr).cell k]
      have : k < 7 := hlt
      rw [textV, if_pos hk]
      match k, this with
      | 0, _ => rfl
      | 1, _ => rfl
      | 2, _ => rfl
      | 3, _ => rfl
      | 4, _ => rfl
      | 5, _ => rfl
      | 6, _ => rfl)
    have bel := Lib.hid (below_alloc w (.cells nameArr 9))
    generalize textV k = t at *
    go_enter Try.func16, Try.ntmps16
    go_wp2_with fail
    refine HK.out.mono ?_
    rintro e w' ⟨rfl, rfl⟩
    go_wp2_with fail
    refine HN.out.mono ?_
    rintro e w' ⟨rfl, rfl⟩
    generalize w.alloc (.cells nameArr 9) = w1 at *
    have hc1 := hc.out
    go_wp2_with fail
    go_ret
    exact ⟨rfl, bel.out⟩
/-- The first place of s among the names; -1. -/
def idxK (s : ByteArray) : Nat → Nat → Int
  | 0, _ => -1
  | n+1, k => if s = nameL.getD k ⟨#[63]⟩ then k else idxK s n (k+1)
def idxV (s : ByteArray) : Int := idxK s 7 0
theorem index_any (s : ByteArray) (g : Nat) (w : World) (hg : Blk w g 9 nameArr) : Calls Try.prog 23 #[.slice (some ⟨g, 0, none⟩) 7 7, .string s] w fun e w' => e = .returned (.int .i64 (idxV s)) ∧ w = w' := by
  have hcell : Hid (∀ k, k < 7 → w.cell? ⟨g, k, none⟩ = some (.string (nameL.getD k ⟨#[63]⟩))) := by
    intro k hk
    rw [hg.cell k]
    match k, hk with
    | 0, _ => rfl
    | 1, _ => rfl
    | 2, _ => rfl
    | 3, _ => rfl
    | 4, _ => rfl
    | 5, _ => rfl
    | 6, _ => rfl
  clear hg
  go_enter Try.func23, Try.ntmps23
  go_wp2
  go_loop [8] (fun i => ∃ k : Nat, k ≤ 7 ∧ i = .int .i64 k ∧ Hid (idxV s = idxK s (7 - k) k)) (fun i => 7 - (intOf i).toNat)
  case atStart => exact ⟨0, by omega, rfl, rfl⟩
  case round =>
    obtain ⟨k, hk, rfl, he⟩ := hrel
    by_cases hlt : k < 7
    · have hc := hcell.out k hlt
      have hs : idxK s (7 - k) k = if s = nameL.getD k ⟨#[63]⟩ then (k : Int) else idxK s (7 - (k + 1)) (k + 1) := by
        rw [show 7 - k = (7 - (k + 1)) + 1 by omega, idxK]
      generalize nameL.getD k ⟨#[63]⟩ = t at *
      by_cases hst : s = t
      · rw [if_pos hst] at hs
        replace hs := Lib.hid hs
        have hb := str_eq hst
        clear hst
        go_wp2
        go_ret
        exact ⟨by rw [he.out, hs.out]; rfl, rfl⟩
      · rw [if_neg hst] at hs
        replace hs := Lib.hid hs
        have hb := str_ne hst
        clear hst
        go_wp2
        go_round
        case rel => exact ⟨k + 1, by omega, by go_num, he.out.trans hs.out⟩
        case measure => simp [intOf]; omega
    · have : k = 7 := by omega
      subst this
      go_wp2
      go_ret
      exact ⟨by rw [he.out]; rfl, rfl⟩
def readV (s : ByteArray) : Int × Int := if idxV s < 0 then (0, 3) else (idxV s, 0)
theorem idxK_lt (s : ByteArray) : ∀ n k, k + n = 7 → idxK s n k = -1 ∨ (0 ≤ idxK s n k ∧ idxK s n k < 7 ∧ nameL.getD (idxK s n k).toNat ⟨#[63]⟩ = s)
  | 0, k, _ => .inl rfl
  | n+1, k, h => by
    unfold idxK
    by_cases e : s = nameL.getD k ⟨#[63]⟩
    · rw [if_pos e]
      exact .inr ⟨by omega, by omega, by simpa using e.symm⟩
    · rw [if_neg e]
      exact idxK_lt s n (k+1) (by omega)
theorem read_any (s : ByteArray) (w : World) : Calls Try.prog 15 #[.string s] w fun e w' => e = .returned (.tuple #[.int .i64 (readV s).1, .int .i64 (readV s).2]) ∧ Below w.heap.size w w' := by
  have HN := Lib.hid (names_t w)
  have HI := Lib.hid (index_any s w.heap.size _ (Blk.new w 9 nameArr))
  have bel := Lib.hid (below_alloc w (.cells nameArr 9))
  have hb := idxK_lt s 7 0 rfl
  have hx : idxV s = -1 ∨ (0 ≤ idxV s ∧ idxV s < 7) := by
    rcases hb with h | h
    · exact .inl h
    · exact .inr ⟨h.1, h.2.1⟩
  by_cases hneg : idxV s < 0
  · rw [show readV s = (0, 3) by simp [readV, hneg]]
    clear hb hx
    go_enter Try.func15, Try.ntmps15
    go_wp2_with fail
    refine HN.out.mono ?_
    rintro e w' ⟨rfl, rfl⟩
    go_wp2_with fail
    refine HI.out.mono ?_
    rintro e w' ⟨rfl, rfl⟩
    go_wp2_with fail
    go_ret2
    exact ⟨rfl, bel.out⟩
  · rw [show readV s = (idxV s, 0) by simp [readV, hneg]]
    have h0 : 0 ≤ idxV s := by omega
    have h7 : idxV s < 7 := by omega
    clear hb hx
    go_enter Try.func15, Try.ntmps15
    go_wp2_with fail
    refine HN.out.mono ?_
    rintro e w' ⟨rfl, rfl⟩
    go_wp2_with fail
    refine HI.out.mono ?_
    rintro e w' ⟨rfl, rfl⟩
    go_wp2_with fail
    go_ret2
    exact ⟨rfl, bel.out⟩
theorem idxV_text : ∀ a : Fin 7, idxV (textV (a.val : Int)) = a.val := by decide +kernel
theorem text_inj : ∀ a b : Fin 7, textV (a.val : Int) = textV (b.val : Int) → a = b := by decide +kernel
set_option maxHeartbeats 4000000 in
set_option maxRecDepth 100000 in
theorem texts_walk (s : ByteArray) (i j : Int) (w : World) (_h0 : s.size ≤ maxLen) (_h1 : (Lit.int .i64 i).wf = true) (_h2 : (Lit.int .i64 j).wf = true) :
    Calls Try.prog 6 #[.string s, .int .i64 i, .int .i64 j] w fun e w' => e = .returned (.bool true) ∧ Below w.heap.size w w' := by
  have bel := Lib.hid (Below.refl w.heap.size w)
  by_cases h40 : 40 < s.size
  · go_enter Try.func6, Try.ntmps6
    go_wp2_with (go_at_call 8; refine (lives_any _).mono ?_; rintro e w1 ⟨rfl, b1⟩)
    go_ret
    exact ⟨rfl, b1⟩
  · obtain ⟨a, PA⟩ := pick_nat i 7 (by omega) (by omega)
    obtain ⟨b, PB⟩ := pick_nat j 7 (by omega) (by omega)
    have ha : a < 7 := by have := PA.lt; omega
    have hb : b < 7 := by have := PB.lt; omega
    have ea := idxV_text ⟨a, ha⟩
    have r1 : (readV (textV a)).1 = a := by simp only [readV]; simp only at ea; rw [ea, if_neg (by omega)]
    have r2 : (readV (textV a)).2 = 0 := by simp only [readV]; simp only at ea; rw [ea, if_neg (by omega)]
    have hinj := text_inj ⟨a, ha⟩ ⟨b, hb⟩
    clear ea
    have hb0 := idxK_lt s 7 0 rfl
    have hr : ((readV s).1 = 0 ∧ (readV s).2 = 3) ∨ (∃ k : Nat, k < 7 ∧ (readV s).1 = k ∧ (readV s).2 = 0 ∧ textV k = s) := by
      rcases hb0 with h | ⟨h1, h2, h3⟩
      · left
        have : idxV s < 0 := by show idxK s 7 0 < 0; omega
        simp [readV, this]
      · right
        obtain ⟨k, hk⟩ := Int.eq_ofNat_of_zero_le h1
        have hk' : idxV s = k := hk
        refine ⟨k, by omega, by simp only [readV, hk']; rw [if_neg (by omega)], by simp only [readV, hk']; rw [if_neg (by omega)], ?_⟩
        rw [hk, Int.toNat_natCast] at h3
        rw [textV, if_pos (by simp [knownB]; omega), Int.toNat_natCast, h3]
    clear hb0
    by_cases hab : a = b
    · subst hab
      clear hinj
      rcases hr with ⟨f1, f2⟩ | ⟨k, hk, f1, f2, f3⟩
      · go_enter Try.func6, Try.ntmps6
        go_wp2_with (first | (go_at_call 8; refine (lives_any _).mono ?_; rintro e w' ⟨rfl, b'⟩; replace bel := Lib.hid (belT bel.out b'); clear b') | (go_at_call 9; with_reducible refine (PA.run.out _).mono ?_; rintro e w' ⟨rfl, rfl⟩) | (go_at_call 9; with_reducible refine (PB.run.out _).mono ?_; rintro e w' ⟨rfl, rfl⟩) | (go_at_call 16; refine (text_any _ _).mono ?_; rintro e w' ⟨rfl, b'⟩; replace bel := Lib.hid (belT bel.out b'); clear b') | (go_at_call 15; refine (read_any _ _).mono ?_; rintro e w' ⟨rfl, b'⟩; replace bel := Lib.hid (belT bel.out b'); clear b') | (go_at_call 17; refine (known_any _ _).mono ?_; rintro e w' ⟨rfl, rfl⟩))
        go_ret
        exact ⟨by first | rfl | (simp; done), bel.out⟩
      · have kn : knownB k = true := by simp [knownB]; omega
        go_enter Try.func6, Try.ntmps6
        go_wp2_with (first | (go_at_call 8; refine (lives_any _).mono ?_; rintro e w' ⟨rfl, b'⟩; replace bel := Lib.hid (belT bel.out b'); clear b') | (go_at_call 9; with_reducible refine (PA.run.out _).mono ?_; rintro e w' ⟨rfl, rfl⟩) | (go_at_call 9; with_reducible refine (PB.run.out _).mono ?_; rintro e w' ⟨rfl, rfl⟩) | (go_at_call 16; refine (text_any _ _).mono ?_; rintro e w' ⟨rfl, b'⟩; replace bel := Lib.hid (belT bel.out b'); clear b') | (go_at_call 15; refine (read_any _ _).mono ?_; rintro e w' ⟨rfl, b'⟩; replace bel := Lib.hid (belT bel.out b'); clear b') | (go_at_call 17; refine (known_any _ _).mono ?_; rintro e w' ⟨rfl, rfl⟩))
        go_ret
        exact ⟨by first | rfl | (simp; done), bel.out⟩
    · have q1 : ((a : Int) == (b : Int)) = false := by rw [beq_eq_false_iff_ne]; omega
      have q2 : ((textV a).toList == (textV b).toList) = false := str_ne (fun e => by
        have := hinj e
        injection this with this
        exact hab this)
      clear hinj hab
      rcases hr with ⟨f1, f2⟩ | ⟨k, hk, f1, f2, f3⟩
      · go_enter Try.func6, Try.ntmps6
        go_wp2_with (first | (go_at_call 8; refine (lives_any _).mono ?_; rintro e w' ⟨rfl, b'⟩; replace bel := Lib.hid (belT bel.out b'); clear b') | (go_at_call 9; with_reducible refine (PA.run.out _).mono ?_; rintro e w' ⟨rfl, rfl⟩) | (go_at_call 9; with_reducible refine (PB.run.out _).mono ?_; rintro e w' ⟨rfl, rfl⟩) | (go_at_call 16; refine (text_any _ _).mono ?_; rintro e w' ⟨rfl, b'⟩; replace bel := Lib.hid (belT bel.out b'); clear b') | (go_at_call 15; refine (read_any _ _).mono ?_; rintro e w' ⟨rfl, b'⟩; replace bel := Lib.hid (belT bel.out b'); clear b') | (go_at_call 17; refine (known_any _ _).mono ?_; rintro e w' ⟨rfl, rfl⟩))
        go_ret
        exact ⟨by first | rfl | (simp; done), bel.out⟩
      · have kn : knownB k = true := by simp [knownB]; omega
        go_enter Try.func6, Try.ntmps6
        go_wp2_with (first | (go_at_call 8; refine (lives_any _).mono ?_; rintro e w' ⟨rfl, b'⟩; replace bel := Lib.hid (belT bel.out b'); clear b') | (go_at_call 9; with_reducible refine (PA.run.out _).mono ?_; rintro e w' ⟨rfl, rfl⟩) | (go_at_call 9; with_reducible refine (PB.run.out _).mono ?_; rintro e w' ⟨rfl, rfl⟩) | (go_at_call 16; refine (text_any _ _).mono ?_; rintro e w' ⟨rfl, b'⟩; replace bel := Lib.hid (belT bel.out b'); clear b') | (go_at_call 15; refine (read_any _ _).mono ?_; rintro e w' ⟨rfl, b'⟩; replace bel := Lib.hid (belT bel.out b'); clear b') | (go_at_call 17; refine (known_any _ _).mono ?_; rintro e w' ⟨rfl, rfl⟩))
        go_ret
        exact ⟨by first | rfl | (simp; done), bel.out⟩
end Go.Proofs.Ytddoephnneeglaa
