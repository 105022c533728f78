/-
  The contracts of the program's Group and Blockers. No condition beside requests that can be read.
-/
import Derived.Test.YtmacpjnkmkaloaaQChk
import Derived.Test.YtmacpjnkmkaloaaSrt
namespace Go.Proofs.Ytmacpjnkmkaloaa
open Go.RowKit
theorem RI.of_ownE {w : World} {base : Nat} {e : TypeId} {v : Value} {n : Nat} {xs : List Int} (h : w.ownsRow base e 1 v n (xs.map (Value.int .i64))) : RI w v xs := by
  obtain ⟨a, c, rfl⟩ := own_slice h
  have hn : n = xs.length := by have := h.1; simp at this; omega
  subst hn
  refine ⟨a, c, rfl, fun h0 => ?_⟩
  obtain ⟨g, ha, _, hlt, hc⟩ := own_cells h h0
  refine ⟨g, 0, ha, hlt, fun j hj => ?_⟩
  have := hc j (by simpa using hj)
  rw [Nat.zero_add, this]
  simp [List.getD, hj]
theorem info_mode : (Try.prog.info? 44).map (fun i => (i.zero, i.size, i.bytes)) = some (some (.int .i64 0), 1, 8) := by kernel_rfl
/-- The modes of the first k. -/
def modesK (l : List Rq) (k : Nat) : List Int := (l.take k).map (·.mode)
theorem modesK_snoc (l : List Rq) (k : Nat) (h : k < l.length) : (modesK l (k + 1)).map (Value.int .i64) = (modesK l k).map (Value.int .i64) ++ [.int .i64 (l.getD k default).mode] := by unfold modesK; rw [take_snocQ l k h]; simp
theorem modesK_all (l : List Rq) (k : Nat) (h : l.length ≤ k) : modesK l k = l.map (·.mode) := by unfold modesK; rw [List.take_of_length_le h]
def supL (ms : List Int) : Int := ms.foldl supV 0
theorem supL_snoc (ms : List Int) (k : Nat) (h : k < ms.length) : supL (ms.take (k + 1)) = supV (supL (ms.take k)) (ms.getD k 0) := by
  unfold supL
  rw [List.take_add_one, List.foldl_append]
  simp [List.getD, h]
set_option maxHeartbeats 1000000 in
theorem mgroup_any (v : Value) (ms : List Int) (w : World) (hv : RI w v ms) (hl : ms.length ≤ 1000) :
    Calls Try.prog 62 #[v] w fun e w' => e = .returned (.int .i64 (supL ms)) ∧ Below w.heap.size w w' := by
  obtain ⟨a, c, rfl, hr⟩ := hv
  replace hr := Lib.hid hr
  have HS := Lib.hid (fun x y W => sup_any x y W)
  generalize hm : ms.length = m at *
  replace hm := Lib.hid hm
  go_enter Try.func62, Try.ntmps62
  go_wp2_with fail
  go_loopw [3, 8] (fun s x wr => ∃ k : Nat, k ≤ m ∧ x = .int .i64 k ∧ (∃ y, s = .int .i64 y ∧ Hid (y = supL (ms.take k))) ∧ Hid (Below w.heap.size w wr)) (fun _ x _ => m - (intOf x).toNat)
  case atStart => exact ⟨0, Nat.zero_le _, rfl, ⟨0, rfl, Lib.hid rfl⟩, Below.refl _ _⟩
  case round =>
    obtain ⟨k, hk, rfl, ⟨y, rfl, hy⟩, hb⟩ := hrel
    by_cases hlt : k < m
    · obtain ⟨b, off, rfl, hbl, hz⟩ := hr.out (by omega)
      have z0 := (hb.out.cell (p := ⟨b, off + k, none⟩) hbl).trans (hz k hlt)
      have E := Lib.hid (supL_snoc ms k (by rw [hm.out]; exact hlt))
      have HS2 := Lib.hid (fun W => HS.out y (ms.getD k 0) W)
      have hy2 := Lib.hid (show supV y (ms.getD k 0) = supL (ms.take (k + 1)) by rw [E.out, hy.out])
      generalize ms.getD k 0 = mk at *
      generalize supV y mk = y2 at *
      have i1 : (0 : Int) ≤ (k : Int) := by omega
      have i2 : (k : Int) < (m : Int) := by omega
      clear hz E hy
      go_wp2_with fail
      refine (HS2.out _).mono ?_
      rintro e w1 ⟨rfl, b1⟩
      replace hb := Lib.hid (hb.out.trans (b1.mono hb.out.size))
      clear b1 HS2 z0
      go_wp2_with fail
      go_roundw
      case rel => exact ⟨k + 1, by omega, by go_num, ⟨y2, rfl, hy2⟩, hb⟩
      case measure => simp [intOf]; omega
    · obtain rfl : k = m := by omega
      have hy2 := hy.out
      rw [List.take_of_length_le (by rw [hm.out]; omega)] at hy2
      replace hy2 := Lib.hid hy2
      clear hy
      go_wp2_with fail
      go_ret
      exact ⟨by rw [← hy2.out]; rfl, hb.out⟩
set_option maxHeartbeats 1000000 in
set_option maxRecDepth 100000 in
theorem group_any (t r n : Int) (v : Value) (l : List Rq) (w : World) (hv : RQ w v l) (hl : l.length ≤ 1000) :
    Calls Try.prog 27 #[hval t r v n] w fun e w' => e = .returned (.int .i64 (supL (l.map (·.mode)))) ∧ Below w.heap.size w w' := by
  have h0 : ∀ b0, Sep (w.alloc (.cells b0 26)) [blk w.heap.size 26 b0, old w] := fun b0 => (Sep.start w).alloc b0 26
  replace h0 := Lib.hid h0
  obtain ⟨a, c, rfl, hlc, _, hr⟩ := hv
  replace hr := Lib.hid hr
  have HG := Lib.hid (fun v ms W h hl => mgroup_any v ms W h hl)
  obtain ⟨i0, hi, hz0, hz1, hz2⟩ := info_parts info_mode
  obtain ⟨R, hRs⟩ : ∃ R, supL (l.map (·.mode)) = R := ⟨_, rfl⟩
  rw [hRs]
  replace hRs := Lib.hid hRs
  unfold hval
  generalize hm : l.length = m at *
  replace hm := Lib.hid hm
  have hS := Lib.hid ((h0.out #[.int .i64 t, .int .i64 r, .slice a m c, .int .i64 n]).vec_nil 44 1)
  clear h0
  go_enter Try.func27, Try.ntmps27
  go_wp2_with fail
  go_loopw [3, 9] (fun s x wr => ∃ (k : Nat) (sv : Value), k ≤ m ∧ x = .int .i64 k ∧ sv = s ∧ Hid (Sep wr [vec 44 1 sv k ((modesK l k).map (Value.int .i64)), blk w.heap.size 26 #[.int .i64 t, .int .i64 r, .slice a m c, .int .i64 n], old w])) (fun _ x _ => m - (intOf x).toNat)
  case atStart => exact ⟨0, _, Nat.zero_le _, rfl, rfl, hS⟩
  case round =>
    clear hS
    obtain ⟨k, sv, hk, rfl, rfl, hS⟩ := hrel
    obtain ⟨sa, sc, rfl⟩ := own_slice hS.out.gvec
    by_cases hlt : k < m
    · obtain ⟨b, off, rfl, hbl, hz⟩ := hr.out (by have := hm.out; omega)
      obtain ⟨z0, z1, z2, z3, z4⟩ := hz k (by have := hm.out; omega)
      have kk : ∀ o, wr.cell? ⟨b, o, none⟩ = w.cell? ⟨b, o, none⟩ := fun o => hS.out.to2.gold.cell (p := ⟨b, o, none⟩) hbl
      rw [← kk] at z0 z1 z2 z3 z4
      have E := Lib.hid (modesK_snoc l k (by rw [hm.out]; exact hlt))
      have hS2 := hS.out.alloc (l.getD k default).cells.toArray 48
      generalize l.getD k default = q at *
      obtain ⟨id, txn, mode, want, since⟩ := q
      simp only [Rq.cells] at hS2
      simp only at z0 z1 z2 z3 z4 E
      replace hS2 := Lib.hid (show Sep _ [blk wr.heap.size 48 #[.int .i64 id, .int .i64 txn, .int .i64 mode, .int .i64 want, .int .i64 since], _, _, _] from hS2)
      obtain ⟨_, p0, p1, p2, p3, p4, _⟩ := hS2.out.b5
      have i1 : (0 : Int) ≤ (k : Int) := by omega
      have i2 : (k : Int) < (m : Int) := by omega
      have hsrc := SrcA.one (wr.alloc (.cells #[.int .i64 id, .int .i64 txn, .int .i64 mode, .int .i64 want, .int .i64 since] 48)) (.int .i64 mode) 44 1
      rw [World.size_alloc] at hsrc
      replace hsrc := Lib.hid hsrc
      clear kk hz
      go_wp2_with (at_builtin; refine wpList_append_sep (hS2.out.to1.allocG _) rfl _ _ 83 rfl i0 (.int .i64 0) 8 Try.underlying83 hi hz0 hz1 hz2 rfl (by decide) rfl 1 [.int .i64 mode] hsrc.out ?c2 ?c3 ?c4 ?_)
      case c2 => simp [Value.oneCell']
      case c3 => simp only [maxLen]; omega
      case c4 => omega
      intro aa ca w5 hS5
      rw [← E.out] at hS5
      replace hS5 := Lib.hid hS5.drop1
      clear hS2 hS E
      go_wp2_with fail
      go_roundw
      case rel => exact ⟨k + 1, _, by omega, by go_num, rfl, hS5⟩
      case measure => simp [intOf]; omega
    · obtain rfl : k = m := by omega
      have hS3 := hS.out
      rw [modesK_all l k (by rw [hm.out]; omega)] at hS3
      obtain ⟨ms, hms⟩ : ∃ ms, l.map (·.mode) = ms := ⟨_, rfl⟩
      rw [hms] at hS3
      have hml : ms.length ≤ 1000 := by rw [← hms, List.length_map, hm.out]; exact hl
      have hRm := hRs.out
      rw [hms] at hRm
      have HX := Lib.hid (HG.out (.slice sa k sc) ms wr (RI.of_ownE hS3.gvec) hml)
      rw [hRm] at HX
      replace hS3 := Lib.hid hS3
      clear hS HG hRm hms hml
      go_wp2_with fail
      refine HX.out.mono ?_
      rintro e w1 ⟨rfl, b1⟩
      replace hS3 := Lib.hid (hS3.out.below b1)
      clear b1 HX
      go_wp2_with fail
      go_ret
      exact ⟨rfl, hS3.out.tail.tail.gold⟩
end Go.Proofs.Ytmacpjnkmkaloaa
