/-
  A script as parts of memory: its block, the threads' slice, each thread's ops, the picks; grow. No condition.
-/
import Derived.Test.YtdpolejbceoldaaDoorScB
import Derived.Test.YtdpolejbceoldaaDoorRwG
import Derived.Test.YtdpolejbceoldaaDoorRL
import Derived.Deep.LoopGhost
namespace Go.Proofs.YtdpolejbceoldaaDoor
set_option linter.unusedSimpArgs false
set_option linter.unusedVariables false
set_option linter.unnecessarySimpa false
open Go.RowKit
def pC (p : Int × Int) : List Value := [.int .i64 p.1, .int .i64 p.2]
def rwO (v : Value) (l : List Oq) : Rw := (v, l.length, l.flatMap oC)
abbrev tVec (v : Value) (n : Nat) (vs : List Value) : Res := vec 44 1 v n vs
abbrev oVec (v : Value) (n : Nat) (l : List Oq) : Res := vec 36 6 v n (l.flatMap oC)
abbrev pVec (v : Value) (n : Nat) (l : List (Int × Int)) : Res := vec 47 2 v n (l.flatMap pC)
abbrev rwR (vs : List Value) (L : List (List Oq)) : Res := rowsG 36 6 (List.zipWith rwO vs L)
/-- What a script's two slices lead to. -/
def scV (tv pv : Value) (S : Sc) : Res := exi fun vs : List Value => star (prop (vs.length = S.ths.length)) (star (tVec tv S.ths.length vs) (star (rwR vs S.ths) (pVec pv S.pks.length S.pks)))
abbrev sBlk (p : Nat) (tv pv : Value) (S : Sc) : Res := blk p 30 #[tv, pv, .int .i64 S.c0, .int .i64 S.c1, .int .i64 S.c2, .int .i64 S.c3]
/-- A script in a block of its own. -/
def scP (p : Nat) (S : Sc) : Res := exi fun x : Value × Value => star (sBlk p x.1 x.2 S) (scV x.1 x.2 S)
variable {w : World} {rs : List Res}
theorem vec_sl {e : TypeId} {size n : Nat} {v : Value} {xs : List Value} (h : Sep w (vec e size v n xs :: rs)) : ∃ a c, v = .slice a n c := own_slice h.gvec
theorem scV_open {tv pv : Value} {S : Sc} (h : Sep w (scV tv pv S :: rs)) : ∃ ta tc pa pc vs, tv = .slice ta S.ths.length tc ∧ pv = .slice pa S.pks.length pc ∧ vs.length = S.ths.length ∧
    Sep w (tVec (.slice ta S.ths.length tc) S.ths.length vs :: rwR vs S.ths :: pVec (.slice pa S.pks.length pc) S.pks.length S.pks :: rs) := by
  obtain ⟨vs, h1⟩ := h.gexi
  obtain ⟨hl, h2⟩ := Sep.gprop.1 (Sep.gstar.1 h1)
  have h3 := Sep.gstar.1 (Sep.gstar.1 h2).to1
  obtain ⟨pa, pc, rfl⟩ := vec_sl h3.to1
  have h4 := (h3.bring 2 rfl)
  obtain ⟨ta, tc, rfl⟩ := vec_sl h4
  exact ⟨ta, tc, pa, pc, vs, rfl, rfl, hl, h4⟩
theorem scV_close {tv pv : Value} {S : Sc} {vs : List Value} (hl : vs.length = S.ths.length) (h : Sep w (tVec tv S.ths.length vs :: rwR vs S.ths :: pVec pv S.pks.length S.pks :: rs)) : Sep w (scV tv pv S :: rs) := by
  exact Sep.exi_mk vs (Sep.gstar.2 (Sep.gprop.2 ⟨hl, Sep.gstar.2 (Sep.gstar.2 h.to1.to2.to1).to1⟩))
theorem scP_open {p : Nat} {S : Sc} (h : Sep w (scP p S :: rs)) : ∃ ta tc pa pc vs, vs.length = S.ths.length ∧
    Sep w (sBlk p (.slice ta S.ths.length tc) (.slice pa S.pks.length pc) S :: tVec (.slice ta S.ths.length tc) S.ths.length vs :: rwR vs S.ths :: pVec (.slice pa S.pks.length pc) S.pks.length S.pks :: rs) := by
  obtain ⟨⟨tv, pv⟩, h1⟩ := h.gexi
  have h2 := (Sep.gstar.1 h1).to1
  obtain ⟨ta, tc, pa, pc, vs, rfl, rfl, hl, h3⟩ := scV_open h2
  exact ⟨ta, tc, pa, pc, vs, hl, h3.to3⟩
theorem scP_close {p : Nat} {S : Sc} {tv pv : Value} {vs : List Value} (hl : vs.length = S.ths.length) (h : Sep w (sBlk p tv pv S :: tVec tv S.ths.length vs :: rwR vs S.ths :: pVec pv S.pks.length S.pks :: rs)) : Sep w (scP p S :: rs) :=
  Sep.exi_mk (tv, pv) (Sep.gstar.2 (scV_close hl h.to1.to2.to3.to1.to2).to1)
theorem info_th : (Tryd.prog.info? 44).map (fun i => (i.zero, i.size, i.bytes)) = some (some (.slice none 0 0), 1, 24) := by kernel_rfl
theorem info_op : (Tryd.prog.info? 36).map (fun i => (i.zero, i.size, i.bytes)) = some (some (.agg #[.int .i64 0, .int .i64 0, .int .i64 0, .int .i64 0, .int .i64 0, .int .i64 0]), 6, 48) := by kernel_rfl
theorem info_pk : (Tryd.prog.info? 47).map (fun i => (i.zero, i.size, i.bytes)) = some (some (.agg #[.int .i64 0, .int .i64 0]), 2, 16) := by kernel_rfl
theorem growL_step (L : List (List Oq)) (k n : Nat) (h : (L ++ List.replicate k []).length < n) : growL L n = growL (L ++ List.replicate k []) n := by
  unfold growL
  rw [List.append_assoc, List.replicate_append_replicate]
  rw [List.length_append, List.length_replicate] at h ⊢
  congr 2
  omega
theorem growL_one (L : List (List Oq)) (n : Nat) (h : L.length < n) : growL (L ++ [[]]) n = growL L n := by
  unfold growL
  rw [List.append_assoc, show ([[]] : List (List Oq)) = List.replicate 1 [] from rfl, List.replicate_append_replicate]
  rw [List.length_append, List.length_replicate]
  congr 2
  omega
theorem growL_done (L : List (List Oq)) (n : Nat) (h : n ≤ L.length) : growL L n = L := by
  unfold growL
  rw [show n - L.length = 0 by omega]
  simp
theorem rw_grow (vs : List Value) (L : List (List Oq)) (hl : vs.length = L.length) (h : Sep w (rwR vs L :: rs)) : Sep w (rwR (vs ++ [.slice none 0 0]) (L ++ [[]]) :: rs) := by
  have := h.rowsG_grow 1
  unfold rwR
  rw [List.zipWith_append hl]
  exact this
set_option maxHeartbeats 4000000 in
set_option maxRecDepth 100000 in
theorem grow_any (p : Nat) (S : Sc) (n : Nat) (w : World) (rs : List Res) (hn : n ≤ 8) (h8 : S.ths.length ≤ 8) (hS : Sep w (scP p S :: rs)) :
    Calls Tryd.prog 27 #[.pointer (some ⟨p, 0, none⟩), .int .i64 n] w fun e w' => e = .returned (.tuple #[]) ∧ Sep w' (scP p { S with ths := growL S.ths n } :: rs) := by
  obtain ⟨i0, hi0, hz0, hz1, hz2⟩ := info_parts info_th
  have h1c : Hid (∀ u ∈ ([.slice none 0 0] : List Value), u.oneCell' = true) := Lib.hid (by simp [Value.oneCell'])
  replace hS := Lib.hid hS
  go_enter Tryd.func27, Tryd.ntmps27
  go_wp2_with fail
  go_loopg [] 8 (fun g wr => ∃ (k m : Nat) (L : List (List Oq)), g = 8 - k ∧ Hid (L.length = m) ∧ Hid (m = S.ths.length + k) ∧ m ≤ 8 ∧ Hid (growL L n = growL S.ths n) ∧ Hid (Sep wr (scP p { S with ths := L } :: rs)))
  case atStart => exact ⟨0, _, S.ths, rfl, Lib.hid rfl, Lib.hid (by omega), h8, Lib.hid rfl, hS⟩
  case round =>
    clear hS
    obtain ⟨k, m, L, rfl, hm, hk, hm8, hG, hS⟩ := hrel
    obtain ⟨ta, tc, pa, pc, vs, hl, h2⟩ := scP_open hS.out
    simp only [hm.out] at hl h2
    obtain ⟨_, c0, c1, c2, c3, c4, c5, f0, _⟩ := h2.b6
    replace hl := Lib.hid hl
    replace h2 := Lib.hid h2
    clear hS
    by_cases hlt : m < n
    · have i1 : (m : Int) < (n : Int) := by omega
      have hml : m + 1 ≤ maxLen := by simp only [maxLen]; omega
      have hbt : (m + 1) * 24 ≤ 140737488355328 := by omega
      go_wp2_with (at_builtin; refine wpList_append_sep (h2.out.to1.allocG _) rfl _ _ 25 rfl i0 (.slice none 0 0) 24 Tryd.underlying25 hi0 hz0 hz1 hz2 rfl (by decide) rfl 1 [.slice none 0 0] (SrcA.one _ _ _ 1) h1c.out hml hbt ?_; intro a' c' w1 q; obtain ⟨_, d0, d1, d2, d3, d4, d5, g0, _⟩ := q.to1.b6; replace q := Lib.hid q)
      have hz := q.out.to1.set 0 (.slice a' (m + 1) c')
      have hz2 := (rw_grow vs L (by rw [hl.out, hm.out]) hz.to2).to2.to2
      have hlen : (L ++ [[]]).length = m + 1 := by rw [List.length_append, hm.out]; rfl
      have hz3 := Lib.hid (scP_close (S := { S with ths := L ++ [[]] }) (vs := vs ++ [.slice none 0 0]) (by rw [hlen, List.length_append, hl.out]; rfl) (by simp only [hlen]; exact hz2))
      go_roundg (8 - (k + 1))
      case rel => exact ⟨k + 1, m + 1, L ++ [[]], rfl, Lib.hid hlen, Lib.hid (by have := hk.out; omega), by omega, Lib.hid (by rw [growL_one _ _ (by rw [hm.out]; exact hlt)]; exact hG.out), hz3⟩
      case measure => have := hk.out; omega
    · have i1 : ¬ (m : Int) < (n : Int) := by omega
      go_wp2_with fail
      go_end0
      refine ⟨rfl, ?_⟩
      rw [← hG.out, growL_done _ _ (by rw [hm.out]; omega)]
      exact scP_close (S := { S with ths := L }) (by simp only [hm.out]; exact hl.out) (by simp only [hm.out]; exact h2.out)
end Go.Proofs.YtdpolejbceoldaaDoor
