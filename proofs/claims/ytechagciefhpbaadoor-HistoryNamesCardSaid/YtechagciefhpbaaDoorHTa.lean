/-
  Words, numbers and modes as text. Condition: RdH (two tables of the library hold what they were laid with).
-/
import Derived.Test.YtechagciefhpbaaDoorNmT
import Derived.Test.YtechagciefhpbaaDoorShelf
import Derived.Test.YtechagciefhpbaaDoorHLaw
import Derived.Lib.AppendIntMem
namespace Go.Proofs.YtechagciefhpbaaDoor
set_option linter.unusedSimpArgs false
set_option linter.unusedVariables false
set_option linter.unnecessarySimpa false
open Go.RowKit
theorem tabIs_below {P : Program} {w w' : World} {name : String} {k : IntKind} {zs : List Int} (h : Lib.TabIs P w name k zs) (hb : Below w.heap.size w w') : Lib.TabIs P w' name k zs := by
  unfold Lib.TabIs World.var? at *
  cases hg : P.globalNamed name with
  | none => rw [hg] at h; cases h
  | some g =>
    rw [hg] at h
    simp only [Option.bind_some] at h ⊢
    by_cases hl : g < w.heap.size
    · rw [hb.block g hl]; exact h
    · rw [Array.getElem?_eq_none (by omega)] at h; cases h
/-- The two tables. -/
structure RdH (w : World) : Prop where
  pow : Lib.TabIs Tryd.prog w "internal/strconv.uint64pow10" .u64 Lib.pow10Tab
  asc : Lib.TabIs Tryd.prog w "strings.asciiSpace" .u8 Lib.asciiSpaceTab
theorem RdH.below {w w' : World} (h : RdH w) (hb : Below w.heap.size w w') : RdH w' := ⟨tabIs_below h.pow hb, tabIs_below h.asc hb⟩
def okI (n : Int) : Prop := n = -3 ∨ (0 ≤ n ∧ n < 100)
def itB (n : Int) : ByteArray := if n < 0 then ⟨#[45, 51]⟩ else dgB n.toNat
theorem itoaE_any (n : Int) (hn : okI n) (w : World) (hR : RdH w) : Calls Tryd.prog 25 #[.int .i64 n] w fun e w' => e = .returned (.string (itB n)) ∧ Below w.heap.size w w' := by
  rcases hn with rfl | ⟨h0, h1⟩
  · refine (Tryd.strconv_Itoa (-3) (by decide) (by decide) w hR.pow).mono ?_
    rintro e w1 ⟨rfl, k, os, rfl⟩
    exact ⟨congrArg (fun x => Ending.returned (.string x)) (show (⟨(Lib.itoa (-3)).toArray⟩ : ByteArray) = itB (-3) by simp [Lib.itoa, Lib.decDigits, itB]), Lib.below_grow _ _ (Nat.le_refl _) _ _⟩
  · obtain ⟨m, rfl⟩ := Int.eq_ofNat_of_zero_le h0
    refine (itoa_any m (by omega) w).mono ?_
    rintro e w1 ⟨rfl, rfl⟩
    exact ⟨by simp [itB, show ¬ (m : Int) < 0 by omega], Below.refl _ _⟩
def wordB (L : List ByteArray) (n : Int) : ByteArray := if n < 1 ∨ (L.length : Int) < n then ⟨#[63]⟩ else L.getD (n - 1).toNat ⟨#[]⟩
set_option maxHeartbeats 1000000 in
theorem word_any (s : ByteArray) (L : List ByteArray) (n : Int) (w : World) (hs : s.size < 1000) (hA : ∀ (j : Nat) b, s.data.toList[j]? = some b → b.toNat < 128) (hF : (Lib.fields s.data.toList).map (fun l => (⟨l.toArray⟩ : ByteArray)) = L) (hL : L.length ≤ 1000) (hR : RdH w) :
    Calls Tryd.prog 26 #[.string s, .int .i64 n] w fun e w' => e = .returned (.string (wordB L n)) ∧ Below w.heap.size w w' := by
  have hl : (Lib.fields s.data.toList).length = L.length := by rw [← hF]; simp
  have hc : ((Lib.fields s.data.toList).map fun l => Value.string ⟨l.toArray⟩) = L.map Value.string := by rw [← hF]; simp
  have H := Tryd.strings_Fields s w (by omega) hA hR.asc
  rw [hc, hl] at H
  replace H := Lib.hid H
  have hB := Lib.hid ((Sep.start w).alloc (L.map Value.string).toArray 9)
  clear hF hA hR hc hl hs
  generalize hm : L.length = m at *
  have E : Hid (wordB L n = if n < 1 ∨ (m : Int) < n then ⟨#[63]⟩ else L.getD (n - 1).toNat ⟨#[]⟩) := Lib.hid (by rw [wordB, hm])
  replace hm := Lib.hid hm
  replace hL := Lib.hid hL
  by_cases h1 : n < 1
  · rw [if_pos (.inl h1)] at E
    have g1 : decide (n < 1) = true := decide_eq_true h1
    go_enter Tryd.func26, Tryd.ntmps26
    go_wp2_with fail
    refine H.out.mono ?_
    rintro e w1 ⟨rfl, rfl⟩
    go_wp2_with fail
    go_ret
    exact ⟨by rw [E.out]; rfl, hB.out.tail.gold⟩
  · have g1 : decide (n < 1) = false := decide_eq_false h1
    by_cases h2 : (m : Int) < n
    · rw [if_pos (.inr h2)] at E
      have g2 : decide ((m : Int) < n) = true := decide_eq_true h2
      go_enter Tryd.func26, Tryd.ntmps26
      go_wp2_with fail
      refine H.out.mono ?_
      rintro e w1 ⟨rfl, rfl⟩
      go_wp2_with fail
      go_ret
      exact ⟨by rw [E.out]; rfl, hB.out.tail.gold⟩
    · rw [if_neg (by omega)] at E
      have g2 : decide ((m : Int) < n) = false := decide_eq_false h2
      obtain ⟨k, rfl⟩ : ∃ k : Nat, n = (k : Int) + 1 := ⟨(n - 1).toNat, by omega⟩
      have hk : k < m := by omega
      have hk2 : k < L.length := by have := hm.out; omega
      have hz := hB.out.gblk.cell k
      simp only [List.getElem?_toArray, List.getElem?_map, List.getElem?_eq_getElem hk2, Option.map_some] at hz
      have E2 : Hid (L[k] = wordB L ((k : Int) + 1)) := Lib.hid (by rw [E.out, show ((k : Int) + 1 - 1).toNat = k by omega]; simp [List.getD, hk2])
      have hg := Lib.hid hB.out.tail.gold
      generalize L[k] = x at *
      clear E hB
      generalize (L.map Value.string).toArray = cs at *
      have i1 : IntKind.i64.wrap (k : Int) = (k : Int) := IntWalk.i64_in _ (by have := hL.out; omega)
      have i2 : (k : Int) < (m : Int) := by omega
      have i3 : (0 : Int) ≤ (k : Int) := by omega
      go_enter Tryd.func26, Tryd.ntmps26
      go_wp2_with fail
      refine H.out.mono ?_
      rintro e w1 ⟨rfl, rfl⟩
      go_wp2_with fail
      go_ret
      exact ⟨by rw [← E2.out]; rfl, hg.out⟩
theorem known_any (m : Int) (h0 : 0 ≤ m) (h6 : m ≤ 6) (w : World) : Calls Tryd.prog 38 #[.int .i64 m] w fun e w' => e = .returned (.bool true) ∧ w = w' := by
  have g1 : decide (0 ≤ m) = true := decide_eq_true h0
  have g2 : decide (m ≤ 6) = true := decide_eq_true h6
  go_enter Tryd.func38, Tryd.ntmps38
  go_wp2_with fail
  go_ret
  exact ⟨rfl, rfl⟩
def mdL : List ByteArray := [⟨#[110, 111, 110, 101]⟩, ⟨#[73, 83]⟩, ⟨#[73, 88]⟩, ⟨#[83]⟩, ⟨#[83, 73, 88]⟩, ⟨#[85]⟩, ⟨#[88]⟩]
theorem names_any (w : World) : Calls Tryd.prog 39 #[] w fun e w' => ∃ g, e = .returned (.slice (some ⟨g, 0, none⟩) 7 7) ∧ Sep w' [blk g 9 (mdL.map Value.string).toArray, old w] := by
  have hB := Lib.hid ((Sep.start w).alloc (mdL.map Value.string).toArray 9)
  go_enter Tryd.func39, Tryd.ntmps39
  go_wp2_with fail
  go_ret
  exact ⟨_, rfl, hB.out⟩
theorem modeT_any (m : Int) (h0 : 0 ≤ m) (h6 : m ≤ 6) (w : World) : Calls Tryd.prog 28 #[.int .i64 m] w fun e w' => e = .returned (.string (mdL.getD m.toNat ⟨#[]⟩)) ∧ Below w.heap.size w w' := by
  have H := Lib.hid (known_any m h0 h6)
  obtain ⟨k, rfl⟩ := Int.eq_ofNat_of_zero_le h0
  have hk : k < 7 := by omega
  go_enter Tryd.func28, Tryd.ntmps28
  go_wp2_with fail
  refine (H.out _).mono ?_
  rintro e w1 ⟨rfl, rfl⟩
  clear H
  go_wp2_with fail
  refine (names_any _).mono ?_
  rintro e w2 ⟨g, rfl, q⟩
  have hz := q.gblk.cell k
  have hk2 : k < mdL.length := hk
  simp only [List.getElem?_toArray, List.getElem?_map, List.getElem?_eq_getElem hk2, Option.map_some] at hz
  have E2 : Hid (mdL[k] = mdL.getD (k : Int).toNat ⟨#[]⟩) := Lib.hid (by simp [List.getD, hk2])
  have hg := Lib.hid q.tail.gold
  generalize mdL[k] = x at *
  clear q
  have i2 : (k : Int) < 7 := by omega
  go_wp2_with fail
  go_ret
  exact ⟨by rw [← E2.out]; rfl, hg.out⟩
end Go.Proofs.YtechagciefhpbaaDoor
