/-
  entry: eight bytes more in a builder. Condition: numbers that are bytes.
-/
import Derived.Test.YtdpolejbceoldaaDoorBld
import Derived.Test.YtdpolejbceoldaaDoorScT
namespace Go.Proofs.YtdpolejbceoldaaDoor
set_option linter.unusedSimpArgs false
set_option linter.unusedVariables false
set_option linter.unnecessarySimpa false
open Go.RowKit
abbrev IsB (B b : Nat) (bs : List Value) (w : World) : Prop := Go.Lib.IsBuilderF 79 5 B b bs w
def ent8 (f : Nat → Int) (k : Nat) : List Value := (List.range k).map (fun j => Value.int .u8 (f j))
theorem ent8_succ (f : Nat → Int) (k : Nat) : ent8 f (k + 1) = ent8 f k ++ [.int .u8 (f k)] := by
  unfold ent8
  rw [List.range_succ, List.map_append]
  rfl
theorem ent8_len (f : Nat → Int) (k : Nat) : (ent8 f k).length = k := by simp [ent8]
theorem blk_others {w w' : World} {g b : Nat} {cs : Array Value} (h : Blk w g 3 cs) (hne : g ≠ b) (hk : Go.Lib.OthersKept 5 (some b) w w') : Blk w' g 3 cs := by
  refine hk g _ h (fun e => hne (by injection e)) (fun c fz e => ?_)
  injection e with _ e2 _
  exact absurd e2 (by decide)
set_option maxHeartbeats 4000000 in
set_option maxRecDepth 100000 in
theorem entry8_any (B b g m c : Nat) (bs : List Value) (l : List Int) (w : World) (hm : l.length = m) (hm8 : m ≤ 8) (hB : IsB B b bs w) (hlen : bs.length + 8 ≤ 140737488355328) (hBw : B ≤ w.heap.size) (hg : Blk w g 3 (l.map (Value.int .i64)).toArray) (hne : g ≠ b) (hby : ∀ j, 0 ≤ l.getD j 0 ∧ l.getD j 0 ≤ 255) :
    Calls Tryd.prog 45 #[.pointer (some ⟨b, 0, none⟩), .slice (some ⟨g, 0, none⟩) m c] w fun e w' => e = .returned (.tuple #[]) ∧ IsB B b (bs ++ ent8 (fun j => l.getD j 0) 8) w' ∧ Below B w w' := by
  have HW := Lib.hid (fun (k : Nat) (z : Int) (W : World) (hk : k < 8) (h : IsB B b (bs ++ ent8 (fun j => l.getD j 0) k) W) (hb : B ≤ W.heap.size) => Tryd.Builder_WriteByte_k B b (bs ++ ent8 (fun j => l.getD j 0) k) z W h (by rw [List.length_append, ent8_len]; omega) hb)
  replace hm := Lib.hid hm
  replace hlen := Lib.hid hlen
  replace hBw := Lib.hid hBw
  have hB0 := Lib.hid (show IsB B b (bs ++ ent8 (fun j => l.getD j 0) 0) w by rw [show ent8 (fun j => l.getD j 0) 0 = [] from rfl, List.append_nil]; exact hB)
  have hg0 := Lib.hid hg
  replace hne := Lib.hid hne
  replace hby := Lib.hid hby
  clear hB hg
  go_enter Tryd.func45, Tryd.ntmps45
  go_wp2_with fail
  go_loopw [6] (fun s wr => ∃ k : Nat, k ≤ 8 ∧ s = .int .i64 k ∧ Hid (IsB B b (bs ++ ent8 (fun j => l.getD j 0) k) wr) ∧ Hid (Below B w wr) ∧ Hid (Blk wr g 3 (l.map (Value.int .i64)).toArray)) (fun s _ => 8 - (intOf s).toNat)
  case atStart => exact ⟨0, by omega, rfl, hB0, Lib.hid (Below.refl _ _), hg0⟩
  case round =>
    clear hB0 hg0
    obtain ⟨k, hk, rfl, hB, hb, hg⟩ := hrel
    by_cases hlt : k < 8
    · have i1 : (k : Int) < 8 := by omega
      have i0 : (0 : Int) ≤ (k : Int) := by omega
      have hk1 := Lib.hid (show k + 1 ≤ 8 from hlt)
      have hsz := Lib.hid (Nat.le_trans hBw.out hb.out.size)
      obtain ⟨z0, z1⟩ := hby.out k
      have hu8 := Lib.hid (IntWalk.u8_in (l.getD k 0) ⟨z0, z1⟩)
      have HWk := Lib.hid (HW.out k (l.getD k 0) wr hlt hB.out hsz.out)
      by_cases hkm : k < m
      · have c0 : wr.cell? ⟨g, k, none⟩ = some (.int .i64 (l.getD k 0)) := by
          rw [hg.out.cell k]
          simp [List.getD_eq_getElem?_getD, show k < l.length by rw [hm.out]; exact hkm]
        have i2 : (k : Int) < (m : Int) := by omega
        have HS := Lib.hid (ent8_succ (fun j => l.getD j 0) k).symm
        generalize l.getD k 0 = z at *
        have hz := hu8.out
        go_wp2_with fail
        refine (HWk.out).mono ?_
        rintro e w2 ⟨rfl, q1, q2, q3⟩
        rw [List.append_assoc, HS.out] at q1
        have hB2 := Lib.hid (show IsB B b (bs ++ ent8 (fun j => l.getD j 0) (k + 1)) w2 from .inr q1)
        have hb2 := Lib.hid (hb.out.trans q2)
        have hg2 := Lib.hid (blk_others hg.out hne.out q3)
        clear q1 q2 q3 hB hb hg HWk
        go_wp2_with fail
        go_roundw
        case rel => exact ⟨k + 1, hk1.out, by go_num, hB2, hb2, hg2⟩
        case measure => have := hk1.out; simp [intOf]; omega
      · have i2 : ¬ (k : Int) < (m : Int) := by omega
        have ez : l.getD k 0 = 0 := by
          rw [List.getD_eq_getElem?_getD, List.getElem?_eq_none (by rw [hm.out]; omega)]; rfl
        have HS := Lib.hid (ent8_succ (fun j => l.getD j 0) k).symm
        rw [ez] at HWk hu8 z0 z1 HS
        clear ez
        go_wp2_with fail
        refine (HWk.out).mono ?_
        rintro e w2 ⟨rfl, q1, q2, q3⟩
        rw [List.append_assoc, HS.out] at q1
        have hB2 := Lib.hid (show IsB B b (bs ++ ent8 (fun j => l.getD j 0) (k + 1)) w2 from .inr q1)
        have hb2 := Lib.hid (hb.out.trans q2)
        have hg2 := Lib.hid (blk_others hg.out hne.out q3)
        clear q1 q2 q3 hB hb hg HWk
        go_wp2_with fail
        go_roundw
        case rel => exact ⟨k + 1, hk1.out, by go_num, hB2, hb2, hg2⟩
        case measure => have := hk1.out; simp [intOf]; omega
    · obtain rfl : k = 8 := by omega
      go_wp2_with fail
      go_end0
      exact ⟨rfl, hB.out, hb.out⟩
end Go.Proofs.YtdpolejbceoldaaDoor
