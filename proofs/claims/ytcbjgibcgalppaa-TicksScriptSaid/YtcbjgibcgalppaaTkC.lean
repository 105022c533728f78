/-
  A clock and the document's clock: Set, Drop, Pass, Next as one contract each. No condition beside clocks that can be read.
-/
import Derived.Test.YtcbjgibcgalppaaTkZ
namespace Go.Proofs.Ytcbjgibcgalppaa
open Go.RowKit Go.Shelf
def setE (now : Int) (x : Tm) (L : List Tm) : Int := if x.1 ≤ now then 2 else if L.any (keyB x.2.1 x.2.2) = true then 4 else 0
def setX (now : Int) (x : Tm) (L : List Tm) : List Tm := if x.1 ≤ now then L else if L.any (keyB x.2.1 x.2.2) = true then L else insT x L
theorem setX_len (now : Int) (x : Tm) (L : List Tm) : (setX now x L).length ≤ L.length + 1 := by
  unfold setX
  split
  · omega
  · split
    · omega
    · rw [(insT_perm x L).length_eq]; simp
theorem cset_any (p : Nat) (now : Int) (L : List Tm) (a b c : Int) (w : World) (rs : List Res) (hS : Sep w (clockR p now L :: rs)) (hn : L.length ≤ 900) : Calls Try.prog 9 #[.pointer (some ⟨p, 0, none⟩), .int .i64 a, .int .i64 b, .int .i64 c] w fun e w' => e = .returned (.int .i64 (setE now (a, b, c) L)) ∧ Sep w' (clockR p now (setX now (a, b, c) L) :: rs) := by
  unfold setE setX
  by_cases h : a ≤ now
  · rw [if_pos h, if_pos h]
    exact (set_early p now L a b c w rs hS h).mono fun e w' ⟨h1, h2⟩ => ⟨h1, hS.below h2⟩
  · rw [if_neg h, if_neg h]
    cases hk : L.any (keyB b c) with
    | true =>
      rw [if_pos (by simp), if_pos (by simp)]
      exact (set_twice p now L a b c w rs hS (by omega) hk hn).mono fun e w' ⟨h1, h2⟩ => ⟨h1, hS.below h2⟩
    | false =>
      rw [if_neg (by simp), if_neg (by simp)]
      exact set_new p now L a b c w rs hS (by omega) hk hn
theorem rset_any (o : Nat) (now : Int) (L : List Tm) (a b c : Int) (w : World) (rs : List Res) (hS : Sep w (refR o now L :: rs)) (hn : L.length ≤ 900) : Calls Try.prog 19 #[.pointer (some ⟨o, 0, none⟩), .int .i64 a, .int .i64 b, .int .i64 c] w fun e w' => e = .returned (.int .i64 (setE now (a, b, c) L)) ∧ Sep w' (refR o now (setX now (a, b, c) L) :: rs) := by
  unfold setE setX
  by_cases h : a ≤ now
  · rw [if_pos h, if_pos h]
    exact (rset_early o now L a b c w rs hS h).mono fun e w' ⟨h1, h2⟩ => ⟨h1, by rw [h2]; exact hS⟩
  · rw [if_neg h, if_neg h]
    cases hk : L.any (keyB b c) with
    | true =>
      rw [if_pos (by simp), if_pos (by simp)]
      exact (rset_twice o now L a b c w rs hS (by omega) hk hn).mono fun e w' ⟨h1, h2⟩ => ⟨h1, by rw [h2]; exact hS⟩
    | false =>
      rw [if_neg (by simp), if_neg (by simp)]
      exact rset_new o now L a b c w rs hS (by omega) hk hn
theorem eraseP_no {L : List Tm} {p : Tm → Bool} (h : L.any p = false) : L.eraseP p = L := List.eraseP_of_forall_not fun x hx => by
  rw [List.any_eq_false] at h
  exact h x hx
theorem cdrop_any (p : Nat) (now : Int) (L : List Tm) (b c : Int) (w : World) (rs : List Res) (hS : Sep w (clockR p now L :: rs)) (hn : L.length ≤ 900) : Calls Try.prog 10 #[.pointer (some ⟨p, 0, none⟩), .int .i64 b, .int .i64 c] w fun e w' => e = .returned (.bool (L.any (keyB b c))) ∧ Sep w' (clockR p now (L.eraseP (keyB b c)) :: rs) := by
  cases hk : L.any (keyB b c) with
  | true => exact drop_yes p now L b c w rs hS hk hn
  | false =>
    rw [eraseP_no hk]
    exact (drop_no p now L b c w rs hS hk hn).mono fun e w' ⟨h1, h2⟩ => ⟨h1, hS.below h2⟩
theorem rdrop_any (o : Nat) (now : Int) (L : List Tm) (b c : Int) (w : World) (rs : List Res) (hS : Sep w (refR o now L :: rs)) (hn : L.length ≤ 900) : Calls Try.prog 20 #[.pointer (some ⟨o, 0, none⟩), .int .i64 b, .int .i64 c] w fun e w' => e = .returned (.bool (L.any (keyB b c))) ∧ Sep w' (refR o now (L.eraseP (keyB b c)) :: rs) := by
  cases hk : L.any (keyB b c) with
  | true => exact rdrop_yes o now L b c w rs hS hk hn
  | false =>
    rw [eraseP_no hk]
    exact (rdrop_no o now L b c w rs hS hk hn).mono fun e w' ⟨h1, h2⟩ => ⟨h1, by rw [h2]; exact hS⟩
/-- What Next tells. -/
def nxT (L : List Tm) : Tm := L.headD (0, 0, 0)
def nxB (L : List Tm) : Bool := !L.isEmpty
theorem cnext_any (p : Nat) (now : Int) (L : List Tm) (w : World) (rs : List Res) (hS : Sep w (clockR p now L :: rs)) : Calls Try.prog 14 #[.pointer (some ⟨p, 0, none⟩)] w fun e w' => e = .returned (.tuple #[tV (nxT L), .bool (nxB L)]) ∧ Below w.heap.size w w' := by
  cases L with
  | nil => exact next_none p now w rs hS
  | cons x M => exact next_some p now x M w rs hS
theorem rnext_any (o : Nat) (now : Int) (L : List Tm) (w : World) (rs : List Res) (hS : Sep w (refR o now L :: rs)) : Calls Try.prog 22 #[.pointer (some ⟨o, 0, none⟩)] w fun e w' => e = .returned (.tuple #[tV (nxT L), .bool (nxB L)]) ∧ Below w.heap.size w w' := by
  cases L with
  | nil => exact rnext_none o now w rs hS
  | cons x M => exact rnext_some o now x M w rs hS
/-- What Pass makes of a clock, whatever the number of ticks. -/
def paE (n : Int) : Int := if n < 0 ∨ 1000 < n then 2 else 0
def paT (now n : Int) : Int := if n < 0 ∨ 1000 < n then now else later now n
def paK (now n : Int) (L : List Tm) : Nat := if n < 0 ∨ 1000 < n then 0 else dueN (later now n) L
theorem paT_in {now n : Int} (h0 : 0 ≤ now) (h1 : now ≤ 9223372036854775807) : 0 ≤ paT now n ∧ paT now n ≤ 9223372036854775807 := by
  unfold paT later
  split <;> omega
theorem cpass_any (p : Nat) (now n : Int) (L : List Tm) (w : World) (rs : List Res) (hS : Sep w (clockR p now L :: rs)) (hL : L.length ≤ 900) (hw0 : 0 ≤ now) (hw1 : now ≤ 9223372036854775807) :
    Calls Try.prog 12 #[.pointer (some ⟨p, 0, none⟩), .int .i64 n] w fun e w' => ∃ (a : Option Addr) (c : Nat), e = .returned (.tuple #[.slice a (paK now n L) c, .int .i64 (paE n)]) ∧ Sep w' (vec 34 3 (.slice a (paK now n L) c) (paK now n L) ((L.take (paK now n L)).flatMap tC) :: clockR p (paT now n) (L.drop (paK now n L)) :: rs) := by
  unfold paK paE paT
  by_cases h : n < 0 ∨ 1000 < n
  · simp only [if_pos h]
    exact (pass_bad p n w h).mono fun e w' ⟨h1, h2⟩ => ⟨none, 0, h1, by rw [h2]; exact hS.vec_nil _ _⟩
  · simp only [if_neg h]
    exact pass_ok p now n L w rs hS hL (by omega) (by omega) hw0 hw1
theorem rpass_any (o : Nat) (now n : Int) (L : List Tm) (w : World) (rs : List Res) (hS : Sep w (refR o now L :: rs)) (hL : L.length ≤ 900) (hw0 : 0 ≤ now) (hw1 : now ≤ 9223372036854775807) :
    Calls Try.prog 21 #[.pointer (some ⟨o, 0, none⟩), .int .i64 n] w fun e w' => ∃ (a : Option Addr) (c : Nat), e = .returned (.tuple #[.slice a (paK now n L) c, .int .i64 (paE n)]) ∧ Sep w' (vec 34 3 (.slice a (paK now n L) c) (paK now n L) ((L.take (paK now n L)).flatMap tC) :: refR o (paT now n) (L.drop (paK now n L)) :: rs) := by
  unfold paK paE paT
  by_cases h : n < 0 ∨ 1000 < n
  · simp only [if_pos h]
    exact (rpass_bad o n w h).mono fun e w' ⟨h1, h2⟩ => ⟨none, 0, h1, by rw [h2]; exact hS.vec_nil _ _⟩
  · simp only [if_neg h]
    exact rpass_ok o now n L w rs hS hL (by omega) (by omega) hw0 hw1
theorem paK_le (now n : Int) (L : List Tm) : paK now n L ≤ L.length := by
  unfold paK
  split
  · exact Nat.zero_le _
  · exact dueN_le _ _
end Go.Proofs.Ytcbjgibcgalppaa
