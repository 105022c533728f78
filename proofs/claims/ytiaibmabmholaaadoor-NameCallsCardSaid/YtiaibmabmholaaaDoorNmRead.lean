/-
  Contracts that Read calls: CutPrefix, Cut, Atoi. Condition: the two sentinels of strconv hold interface values, and the cell of bytealg.MaxLen an int (RdW). Imports the shelf's layings (<Name>Shelf: see NOTES).
-/
import Derived.Test.YtiaibmabmholaaaDoorNmRd
import Derived.Test.YtiaibmabmholaaaDoorShelf
import Derived.WalkSmall
import Derived.Lib.ConvBytes
namespace Go.Proofs.YtiaibmabmholaaaDoor
open Go.RowKit
/-- What is asked of the variables that Read's callees look at. -/
structure RdW (w : World) : Prop where
  syn : ∃ tp p, w.var? Tryd.prog "strconv.ErrSyntax" = some #[.iface tp p]
  rng : ∃ tp p, w.var? Tryd.prog "strconv.ErrRange" = some #[.iface tp p]
  max : ∃ m, w.cell? ⟨0, 0, none⟩ = some (.int .i64 m)
def atoiN (l : List UInt8) : Int := match Go.Lib.atoiAll l with | .ok v => v | .syntax => 0 | .range => Go.Lib.atoiSat l
theorem bytes_below (w : World) (s : ByteArray) : Below w.heap.size w (Go.Lib.bytesWorld w 5 s) :=
  ⟨by simp [Go.Lib.bytesWorld, World.freeze]; rfl, by simp [Go.Lib.bytesWorld, World.freeze]; try rfl, by simp [Go.Lib.bytesWorld, World.freeze]; rfl, by rw [Go.Lib.bytesWorld_size]; omega, fun k hk => Go.Lib.bytesWorld_at_old w 5 s k hk⟩
theorem atoi_any (s : ByteArray) (hs : s.size ≤ 1000) (w : World) (h : RdW w) : Calls Tryd.prog 43 #[.string s] w fun e w' => ∃ er, e = .returned (.tuple #[.int .i64 (atoiN s.data.toList), er]) ∧ Below w.heap.size w w' := by
  cases ha : Go.Lib.atoiAll s.data.toList with
  | ok v =>
    rw [show atoiN s.data.toList = v by simp [atoiN, ha]]
    refine (Tryd.strconv_Atoi_ok s (by omega) v ha w).mono ?_
    rintro e w1 ⟨rfl, rfl | ⟨t, rfl⟩⟩
    · exact ⟨_, rfl, Below.refl _ _⟩
    · exact ⟨_, rfl, bytes_below w t⟩
  | «syntax» =>
    rw [show atoiN s.data.toList = 0 by simp [atoiN, ha]]
    obtain ⟨tp, p, hv⟩ := h.syn
    refine (Tryd.strconv_Atoi_syntax_var s (by omega) ha tp p w hv).mono ?_
    rintro e w1 ⟨N, rfl, _, _, b⟩
    exact ⟨_, rfl, b⟩
  | range =>
    rw [show atoiN s.data.toList = Go.Lib.atoiSat s.data.toList by simp [atoiN, ha]]
    obtain ⟨tp, p, hv⟩ := h.rng
    refine (Tryd.strconv_Atoi_range_var s (by omega) ha tp p w hv).mono ?_
    rintro e w1 ⟨N, rfl, _, _, b⟩
    exact ⟨_, rfl, b⟩
theorem RdW.later {w w' : World} (h : RdW w) (hb : Below w.heap.size w w') (h5 : 9 < w.heap.size) : RdW w' := by
  obtain ⟨⟨t1, p1, v1⟩, ⟨t2, p2, v2⟩, m, hm⟩ := h
  obtain ⟨g1, e1⟩ : ∃ g, Tryd.prog.globalNamed "strconv.ErrSyntax" = some g ∧ g < 9 := ⟨1, by kernel_rfl, by decide⟩
  obtain ⟨g2, e2⟩ : ∃ g, Tryd.prog.globalNamed "strconv.ErrRange" = some g ∧ g < 9 := ⟨2, by kernel_rfl, by decide⟩
  exact ⟨⟨t1, p1, var?_below hb e1.1 (by omega) v1⟩, ⟨t2, p2, var?_below hb e2.1 (by omega) v2⟩, m, (hb.cell (p := ⟨0, 0, none⟩) (show 0 < w.heap.size by omega)).trans hm⟩
/-- Behind the prefix 't'. -/
def restB (s : ByteArray) : ByteArray := if Go.Lib.hasPrefix s.data.toList [116] then s.extract 1 s.size else s
theorem cutPrefix_any (s : ByteArray) (hs : s.size ≤ 1000) (w : World) : Calls Tryd.prog 41 #[.string s, .string ⟨#[116]⟩] w fun e w' => e = .returned (.tuple #[.string (restB s), .bool (Go.Lib.hasPrefix s.data.toList [116])]) ∧ w = w' := by
  have HP := Lib.hid (fun W => Tryd.stringslite_HasPrefix s ⟨#[116]⟩ W)
  rw [show (⟨#[116]⟩ : ByteArray).data.toList = [116] from rfl] at HP
  cases hp : Go.Lib.hasPrefix s.data.toList [116] with
  | true =>
    have h1 : 1 ≤ s.size := by
      have := List.isPrefixOf_iff_prefix.1 (show List.isPrefixOf [116] s.data.toList = true from hp)
      have := this.length_le
      simpa using this
    have E := Lib.hid (show restB s = s.extract 1 s.size by unfold restB; rw [hp]; rfl)
    rw [hp] at HP
    clear hp
    go_enter Tryd.func41, Tryd.ntmps41
    go_wp2_with (first | (go_at_call 54; refine (HP.out _).mono ?_; rintro e w1 ⟨rfl, rfl⟩) | go_in)
    go_ret2
    exact ⟨by rw [E.out]; rfl, rfl⟩
  | false =>
    have E := Lib.hid (show restB s = s by unfold restB; rw [hp]; rfl)
    rw [hp] at HP
    clear hp
    go_enter Tryd.func41, Tryd.ntmps41
    go_wp2_with (first | (go_at_call 54; refine (HP.out _).mono ?_; rintro e w1 ⟨rfl, rfl⟩) | go_in)
    go_ret2
    exact ⟨by rw [E.out]; rfl, rfl⟩
theorem cutR_any (s : ByteArray) (hs : s.size ≤ 1000) (w : World) (h : RdW w) : Calls Tryd.prog 42 #[.string s, .string ⟨#[46, 114]⟩] w fun e w' => e = .returned (.tuple #[.string ⟨(Go.Lib.cut s.data.toList [46, 114]).1.toArray⟩, .string ⟨(Go.Lib.cut s.data.toList [46, 114]).2.1.toArray⟩, .bool (Go.Lib.cut s.data.toList [46, 114]).2.2]) ∧ Below w.heap.size w w' := by
  obtain ⟨m, hm⟩ := h.max
  refine (Tryd.strings_Cut s ⟨#[46, 114]⟩ m w (by omega) hm).mono ?_
  rintro e w1 ⟨rfl, n, rfl⟩
  exact ⟨rfl, below_drewN' (Below.refl _ _) _⟩
/-- What Read makes of a text ahead of the test: a table, a record. -/
def rdN (s : ByteArray) : Int × Int :=
  if Go.Lib.hasPrefix s.data.toList [116] then
    let c := Go.Lib.cut (restB s).data.toList [46, 114]
    (atoiN c.1, if c.2.2 then atoiN c.2.1 else -1)
  else (-1, -1)
end Go.Proofs.YtiaibmabmholaaaDoor
