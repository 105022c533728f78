/-
  Reading an entry into a script: readPick, readCaps, readOp. No condition beside an entry of eight bytes and a script that can be read.
-/
import Derived.Test.YtdpolejbceoldaaDoorScG
import Derived.Test.YtdpolejbceoldaaDoorShelf
import Derived.Lib.TrimByte
namespace Go.Proofs.YtdpolejbceoldaaDoor
set_option linter.unusedSimpArgs false
set_option linter.unusedVariables false
set_option linter.unnecessarySimpa false
open Go.RowKit
theorem dw_nil {α : Type} (p : α → Bool) : ∀ l : List α, l.dropWhile p = [] ↔ ∀ x ∈ l, p x = true
  | [] => by simp
  | a :: l => by
    rw [List.dropWhile_cons]
    by_cases h : p a = true
    · rw [if_pos h, dw_nil p l]
      simp [h]
    · rw [if_neg h]
      simp [h]
theorem trim_nil (l : List UInt8) : (Go.Lib.trimB l 0 == []) = l.all (· == 0) := by
  rw [Bool.eq_iff_iff]
  simp only [beq_iff_eq, List.all_eq_true, Go.Lib.trimB, Go.Lib.trimLeftB, Go.Lib.trimRightB]
  constructor
  · intro h x hx
    have h1 : ∀ y ∈ (l.reverse.dropWhile (· == 0)).reverse, (y == 0) = true := by
      rw [dw_nil] at h
      exact h
    have h2 := List.takeWhile_append_dropWhile (p := fun y : UInt8 => y == 0) (l := l.reverse)
    have hx2 : x ∈ l.reverse := by simpa using hx
    rw [← h2] at hx2
    rcases List.mem_append.1 hx2 with h3 | h3
    · exact beq_iff_eq.1 (by have := List.all_takeWhile (p := fun y : UInt8 => y == 0) (l := l.reverse); rw [List.all_eq_true] at this; exact this x h3)
    · exact beq_iff_eq.1 (h1 x (by simpa using h3))
  · intro h
    have h1 : l.reverse.dropWhile (· == 0) = [] := by
      rw [dw_nil]
      intro x hx
      exact beq_iff_eq.2 (h x (by simpa using hx))
    rw [h1]
    rfl
theorem trim_any (y : ByteArray) (hy : y.size ≤ 1000) (w : World) : Calls Tryd.prog 48 #[.string y, .string ⟨#[0]⟩] w fun e w' => ∃ r, e = .returned (.string r) ∧ (r.toList == []) = y.data.toList.all (· == 0) ∧ Below w.heap.size w w' := by
  refine (Tryd.strings_Trim_one y 0 (by decide) w (by omega)).mono ?_
  rintro e w1 ⟨rfl, h⟩
  refine ⟨_, rfl, ?_, ?_⟩
  · rw [ByteArray.toList_mk, trim_nil]
  · rcases h with rfl | rfl
    · exact Below.refl _ _
    · exact (Below.refl _ _).drew
/-- The bytes from i on are all 0. -/
theorem zeros_from (x : ByteArray) (hx : x.size = 8) (i : Nat) (hi : i ≤ 8) : ((x.extract i 8).data.toList.all (· == 0)) = true ↔ ∀ j, i ≤ j → j < 8 → bt x j = 0 := by
  rw [List.all_eq_true]
  have hs : (x.extract i 8).data.toList.length = 8 - i := by
    rw [Array.length_toList]
    have : (x.extract i 8).data.size = (x.extract i 8).size := rfl
    rw [this, ByteArray.size_extract]; omega
  have e : ∀ j, i ≤ j → j < 8 → bt x j = (((x.extract i 8).data.toList.getD (j - i) 0).toNat : Int) := by
    intro j h1 h2
    have := bt_extract x i 8 (j - i) (by omega)
    rw [show i + (j - i) = j by omega] at this
    rw [← this]
    unfold bt
    rw [List.getD_eq_getElem?_getD, Array.getElem?_toList]
  constructor
  · intro h j h1 h2
    rw [e j h1 h2]
    have hlt : j - i < (x.extract i 8).data.toList.length := by omega
    have := h _ (List.getElem_mem hlt)
    rw [List.getD_eq_getElem?_getD, List.getElem?_eq_getElem hlt, Option.getD_some, beq_iff_eq.1 this]
    rfl
  · intro h b hb
    obtain ⟨k, hk, rfl⟩ := List.getElem_of_mem hb
    have h1 := h (i + k) (by omega) (by omega)
    rw [e (i + k) (by omega) (by omega), show i + k - i = k by omega, List.getD_eq_getElem?_getD, List.getElem?_eq_getElem hk, Option.getD_some] at h1
    rw [beq_iff_eq]
    exact UInt8.toNat_inj.1 (by simpa using h1)
theorem zeros6 (x : ByteArray) (hx : x.size = 8) : ((x.extract 6 8).data.toList.all (· == 0)) = decide (bt x 6 = 0 ∧ bt x 7 = 0) := by
  rw [Bool.eq_iff_iff, zeros_from x hx 6 (by omega), decide_eq_true_iff]
  constructor
  · intro h; exact ⟨h 6 (by omega) (by omega), h 7 (by omega) (by omega)⟩
  · intro h j h1 h2
    obtain rfl | rfl : j = 6 ∨ j = 7 := by omega
    · exact h.1
    · exact h.2
theorem zeros3 (x : ByteArray) (hx : x.size = 8) : ((x.extract 3 8).data.toList.all (· == 0)) = decide (bt x 3 = 0 ∧ bt x 4 = 0 ∧ bt x 5 = 0 ∧ bt x 6 = 0 ∧ bt x 7 = 0) := by
  rw [Bool.eq_iff_iff, zeros_from x hx 3 (by omega), decide_eq_true_iff]
  constructor
  · intro h; exact ⟨h 3 (by omega) (by omega), h 4 (by omega) (by omega), h 5 (by omega) (by omega), h 6 (by omega) (by omega), h 7 (by omega) (by omega)⟩
  · intro h j h1 h2
    obtain rfl | rfl | rfl | rfl | rfl : j = 3 ∨ j = 4 ∨ j = 5 ∨ j = 6 ∨ j = 7 := by omega
    · exact h.1
    · exact h.2.1
    · exact h.2.2.1
    · exact h.2.2.2.1
    · exact h.2.2.2.2
theorem srcA_cells (w : World) (cs : Array Value) (t : TypeId) (c sz : Nat) (hz : cs.size = sz) : SrcA (w.alloc (.cells cs t)) sz (.slice (some ⟨w.heap.size, 0, none⟩) 1 c) 1 cs.toList := by
  refine .inr ⟨_, _, rfl, by simpa using hz, fun j u hu => ?_⟩
  rw [Addr.add_lit, (Blk.new w t cs).cell]
  simpa using hu
set_option maxHeartbeats 4000000 in
set_option maxRecDepth 100000 in
theorem readPick_all (p : Nat) (S : Sc) (x : ByteArray) (hx : x.size = 8) (hk : S.pks.length ≤ 4096) (h1 : pkB (bt x 1, bt x 2) = true) (h2 : S.pks.length < 4096) (h3 : bt x 3 = 0 ∧ bt x 4 = 0 ∧ bt x 5 = 0 ∧ bt x 6 = 0 ∧ bt x 7 = 0) (w : World) (rs : List Res) (hS : Sep w (scP p S :: rs)) : Calls Tryd.prog 30 #[.pointer (some ⟨p, 0, none⟩), .string x] w fun e w' => e = .returned (.tuple #[]) ∧ Sep w' (scP p { S with pks := S.pks ++ [(bt x 1, bt x 2)] } :: rs) := by
  have hg := bt_get x
  have hw : ∀ i, IntKind.i64.wrap (bt x i) = bt x i := fun i => by have := bt_bd x i; exact i64_small _ (by omega) (by omega)
  have hS0 := Lib.hid hS
  obtain ⟨i0, hi0, hz0, hz1, hz2⟩ := info_parts info_pk
  have h1c : Hid (∀ u ∈ ([.int .i64 (bt x 1), .int .i64 (bt x 2)] : List Value), u.oneCell' = true) := Lib.hid (by simp [Value.oneCell'])
  have HP := Lib.hid (fun W => pk_any (bt x 1) (bt x 2) W)
  rw [h1] at HP
  have i2 : (S.pks.length : Int) < 4096 := by omega
  have HT := Lib.hid (fun W => trim_any (x.extract 3 8) (by rw [ByteArray.size_extract]; omega) W)
  rw [zeros3 x hx, decide_eq_true h3] at HT
  replace hS := Lib.hid hS
  go_enter Tryd.func30, Tryd.ntmps30
  go_wp2
  have hS := Lib.hid (show (fun W : World => Sep W (scP p S :: rs)) _ from hS.out.drew)
  refine hx_begin (fun W : World => Sep W (scP p S :: rs)) 8 [(0, true), (1, true), (2, true), (3, true), (4, true), (5, true), (6, true), (7, false), (8, false)] [(7, 8), (6, 8), (0, 8), (1, 8), (2, 8), (3, 8), (4, 8), (5, 8)] (by kernel_rfl) (by kernel_rfl) (by kernel_rfl) (by kernel_rfl) rfl (by kernel_rfl) (by kernel_rfl) (fun _ _ _ _ _ h => h) hS.out ?_
  change HX _ _ _ _ _ _ _ (World.drew _)
  generalize World.drew _ = wd at *
  refine hx_take ?v9 rfl (by kernel_rfl) ?y9 ?z9
  case y9 => intro W hW; skip; replace hW := Lib.hid hW; go_simp; try rfl
  case z9 =>
  simp only [Act.put, List.setIfInBounds_toArray, List.set_cons_succ, List.set_cons_zero, List.getElem_toArray, List.getElem_cons_zero, List.getElem_cons_succ]
  refine hx_take ?v10 rfl (by kernel_rfl) ?y10 ?z10
  case y10 => intro W hW; skip; replace hW := Lib.hid hW; go_simp; try rfl
  case z10 =>
  simp only [Act.put, List.setIfInBounds_toArray, List.set_cons_succ, List.set_cons_zero, List.getElem_toArray, List.getElem_cons_zero, List.getElem_cons_succ]
  refine hx_take ?v11 rfl (by kernel_rfl) ?y11 ?z11
  case y11 => intro W hW; skip; replace hW := Lib.hid hW; go_simp; try rfl
  case z11 =>
  simp only [Act.put, List.setIfInBounds_toArray, List.set_cons_succ, List.set_cons_zero, List.getElem_toArray, List.getElem_cons_zero, List.getElem_cons_succ]
  refine hx_take ?v12 rfl (by kernel_rfl) ?y12 ?z12
  case y12 => intro W hW; skip; replace hW := Lib.hid hW; go_simp; try rfl
  case z12 =>
  simp only [Act.put, List.setIfInBounds_toArray, List.set_cons_succ, List.set_cons_zero, List.getElem_toArray, List.getElem_cons_zero, List.getElem_cons_succ]
  refine hx_take ?v13 rfl (by kernel_rfl) ?y13 ?z13
  case y13 => intro W hW; skip; replace hW := Lib.hid hW; go_simp; try rfl
  case z13 =>
  simp only [Act.put, List.setIfInBounds_toArray, List.set_cons_succ, List.set_cons_zero, List.getElem_toArray, List.getElem_cons_zero, List.getElem_cons_succ]
  refine hx_take ?v14 rfl (by kernel_rfl) ?y14 ?z14
  case y14 => intro W hW; skip; replace hW := Lib.hid hW; go_simp; try rfl
  case z14 =>
  simp only [Act.put, List.setIfInBounds_toArray, List.set_cons_succ, List.set_cons_zero, List.getElem_toArray, List.getElem_cons_zero, List.getElem_cons_succ]
  refine hx_take ?v15 rfl (by kernel_rfl) ?y15 ?z15
  case y15 => intro W hW; skip; replace hW := Lib.hid hW; go_simp; try rfl
  case z15 =>
  simp only [Act.put, List.setIfInBounds_toArray, List.set_cons_succ, List.set_cons_zero, List.getElem_toArray, List.getElem_cons_zero, List.getElem_cons_succ]
  refine hx_one (by decide) rfl (by kernel_rfl) (fun K hK => ?_)
  go_simp
  refine hK.out _ _ (hS.out.allocG (.cells #[.int .i64 0, .int .i64 0] 47)) ?_
  have hB := Lib.hid (hS.out.alloc #[.int .i64 0, .int .i64 0] 47)
  clear hK K
  try simp only [Act.put, List.setIfInBounds_toArray, List.set_cons_succ, List.set_cons_zero, List.getElem_toArray, List.getElem_cons_zero, List.getElem_cons_succ]
  refine hx_last rfl (by kernel_rfl) (fun K hK => ?_)
  obtain ⟨_, c0, c1, f0, f1⟩ := hB.out.b2
  go_simp
  refine hK.out _ _ ?_
  clear c0 c1 f0 f1
  clear hK K
  try simp only [Act.put, List.setIfInBounds_toArray, List.set_cons_succ, List.set_cons_zero, List.getElem_toArray, List.getElem_cons_zero, List.getElem_cons_succ]
  refine hx_done ?_
  clear hB hw hg
  have hB := Lib.hid (hS.out.alloc #[.int .i64 (bt x 1), .int .i64 (bt x 2)] 47)
  clear hS hS0
  generalize hX : wd.heap.size = X at *
  generalize wd.alloc (.cells #[.int .i64 (bt x 1), .int .i64 (bt x 2)] 47) = w1 at *
  clear hX
  obtain ⟨ta, tc, pa, pc, vs, hl, h2⟩ := scP_open hB.out.to1
  obtain ⟨_, b0, b1, _⟩ := (h2.bring 4 rfl).b2
  obtain ⟨_, s0, s1, s2, s3, s4, s5, g0, g1, _⟩ := h2.b6
  replace h2 := Lib.hid h2
  clear hB
  go_wp2_with (first | (go_at_call 44; refine (HP.out _).mono ?_; rintro e w2 ⟨rfl, q2⟩; replace h2 := Lib.hid (h2.out.below q2); clear q2 b0 b1 s0 s1 s2 s3 s4 s5 g0 g1; obtain ⟨_, b0, b1, _⟩ := (h2.out.bring 4 rfl).b2; obtain ⟨_, s0, s1, s2, s3, s4, s5, g0, g1, _⟩ := h2.out.b6) | (go_at_call 48; refine (HT.out _).mono ?_; rintro e w2 ⟨r, rfl, hr, q2⟩; replace h2 := Lib.hid (h2.out.below q2); clear q2 b0 b1 s0 s1 s2 s3 s4 s5 g0 g1; obtain ⟨_, b0, b1, _⟩ := (h2.out.bring 4 rfl).b2; obtain ⟨_, s0, s1, s2, s3, s4, s5, g0, g1, _⟩ := h2.out.b6))
  clear b0 b1 s0 s1 s2 s3 s4 s5 g0 g1
  have hB := Lib.hid (show Sep _ (sBlk p (.slice ta S.ths.length tc) (.slice pa S.pks.length pc) S :: blk X 47 #[.int .i64 (bt x 1), .int .i64 (bt x 2)] :: pVec (.slice pa S.pks.length pc) S.pks.length S.pks :: tVec (.slice ta S.ths.length tc) S.ths.length vs :: rwR vs S.ths :: rs) from (h2.out.to4.to4.to2.to2.to1.drew))
  have hS := Lib.hid (show (fun W : World => ∃ u q cs, Sep W (sBlk p (.slice ta S.ths.length tc) (.slice pa S.pks.length pc) S :: blk X 47 #[.int .i64 (bt x 1), .int .i64 (bt x 2)] :: vec 47 2 u q cs :: tVec (.slice ta S.ths.length tc) S.ths.length vs :: rwR vs S.ths :: rs)) _ from ⟨_, _, _, hB.out⟩)
  refine hx_begin (fun W : World => ∃ u q cs, Sep W (sBlk p (.slice ta S.ths.length tc) (.slice pa S.pks.length pc) S :: blk X 47 #[.int .i64 (bt x 1), .int .i64 (bt x 2)] :: vec 47 2 u q cs :: tVec (.slice ta S.ths.length tc) S.ths.length vs :: rwR vs S.ths :: rs)) 10 [(0, true), (1, true), (2, true), (3, true), (4, true), (5, true), (6, false), (7, false), (8, true), (9, true), (10, false)] [(9, 10), (7, 10), (0, 10), (1, 10), (2, 10), (3, 10), (4, 10), (5, 10), (6, 10), (8, 9)] (by kernel_rfl) (by kernel_rfl) (by kernel_rfl) (by kernel_rfl) rfl (by kernel_rfl) (by kernel_rfl) (fun _ _ _ _ _ h => h) hS.out ?_
  change HX _ _ _ _ _ _ _ (World.drew _)
  generalize World.drew _ = wd at *
  refine hx_take ?v1 rfl (by kernel_rfl) ?y1 ?z1
  case y1 => intro W hW; skip; replace hW := Lib.hid hW; go_simp; try rfl
  case z1 =>
  simp only [Act.put, List.setIfInBounds_toArray, List.set_cons_succ, List.set_cons_zero, List.getElem_toArray, List.getElem_cons_zero, List.getElem_cons_succ]
  refine hx_take ?v2 rfl (by kernel_rfl) ?y2 ?z2
  case y2 => intro W hW; skip; replace hW := Lib.hid hW; go_simp; try rfl
  case z2 =>
  simp only [Act.put, List.setIfInBounds_toArray, List.set_cons_succ, List.set_cons_zero, List.getElem_toArray, List.getElem_cons_zero, List.getElem_cons_succ]
  refine hx_take ?v3 rfl (by kernel_rfl) ?y3 ?z3
  case y3 => intro W hW; skip; replace hW := Lib.hid hW; go_simp; try rfl
  case z3 =>
  simp only [Act.put, List.setIfInBounds_toArray, List.set_cons_succ, List.set_cons_zero, List.getElem_toArray, List.getElem_cons_zero, List.getElem_cons_succ]
  refine hx_take ?v4 rfl (by kernel_rfl) ?y4 ?z4
  case y4 => intro W hW; skip; replace hW := Lib.hid hW; go_simp; try rfl
  case z4 =>
  simp only [Act.put, List.setIfInBounds_toArray, List.set_cons_succ, List.set_cons_zero, List.getElem_toArray, List.getElem_cons_zero, List.getElem_cons_succ]
  refine hx_take ?v5 rfl (by kernel_rfl) ?y5 ?z5
  case y5 => intro W hW; obtain ⟨_, _, _, hW⟩ := hW; obtain ⟨_, s0, s1, s2, s3, s4, s5, _⟩ := (show Sep _ _ from hW).b6; obtain ⟨_, b0, b1, _⟩ := (show Sep _ _ from hW).to1.b2; replace hW := Lib.hid hW; go_simp; try rfl
  case z5 =>
  simp only [Act.put, List.setIfInBounds_toArray, List.set_cons_succ, List.set_cons_zero, List.getElem_toArray, List.getElem_cons_zero, List.getElem_cons_succ]
  refine hx_take ?v6 rfl (by kernel_rfl) ?y6 ?z6
  case y6 => intro W hW; obtain ⟨_, _, _, hW⟩ := hW; obtain ⟨_, s0, s1, s2, s3, s4, s5, _⟩ := (show Sep _ _ from hW).b6; obtain ⟨_, b0, b1, _⟩ := (show Sep _ _ from hW).to1.b2; replace hW := Lib.hid hW; go_simp; try rfl
  case z6 =>
  simp only [Act.put, List.setIfInBounds_toArray, List.set_cons_succ, List.set_cons_zero, List.getElem_toArray, List.getElem_cons_zero, List.getElem_cons_succ]
  refine hx_one (by decide) rfl (by kernel_rfl) (fun K hK => ?_)
  go_simp
  replace hB := Lib.hid (hB.out.allocG (.cells #[.int .i64 (bt x 1), .int .i64 (bt x 2)] 47))
  have hsrc := Lib.hid (srcA_cells wd #[.int .i64 (bt x 1), .int .i64 (bt x 2)] 47 1 2 rfl)
  refine hK.out _ _ ⟨_, _, _, hB.out⟩ ?_
  clear hK K
  try simp only [Act.put, List.setIfInBounds_toArray, List.set_cons_succ, List.set_cons_zero, List.getElem_toArray, List.getElem_cons_zero, List.getElem_cons_succ]
  refine hx_one (by decide) rfl (by kernel_rfl) (fun K hK => ?_)
  refine wp_append_sep hB.out.to2 (.tmp 32) (.tmp 34) 26 (by rfl) i0 _ 16 Tryd.underlying26 hi0 hz0 hz1 hz2 rfl (by decide) (by rfl) 1 [.int .i64 (bt x 1), .int .i64 (bt x 2)] (by exact hsrc.out) h1c.out (by simp only [maxLen]; omega) (by omega) ?_
  intro na nc w2 q
  replace hB := Lib.hid (show Sep _ _ from q.to2.to2)
  clear q hsrc
  refine hK.out _ _ ⟨_, _, _, hB.out⟩ ?_
  clear hK K
  try simp only [Act.put, List.setIfInBounds_toArray, List.set_cons_succ, List.set_cons_zero, List.getElem_toArray, List.getElem_cons_zero, List.getElem_cons_succ]
  refine hx_take ?v7 rfl (by kernel_rfl) ?y7 ?z7
  case y7 => intro W hW; skip; replace hW := Lib.hid hW; go_simp; try rfl
  case z7 =>
  simp only [Act.put, List.setIfInBounds_toArray, List.set_cons_succ, List.set_cons_zero, List.getElem_toArray, List.getElem_cons_zero, List.getElem_cons_succ]
  refine hx_take ?v8 rfl (by kernel_rfl) ?y8 ?z8
  case y8 => intro W hW; skip; replace hW := Lib.hid hW; go_simp; try rfl
  case z8 =>
  simp only [Act.put, List.setIfInBounds_toArray, List.set_cons_succ, List.set_cons_zero, List.getElem_toArray, List.getElem_cons_zero, List.getElem_cons_succ]
  refine hx_last rfl (by kernel_rfl) (fun K hK => ?_)
  obtain ⟨_, s0, s1, s2, s3, s4, s5, g0, g1, _⟩ := hB.out.to1.to1.b6
  go_simp
  refine hK.out _ _ ?_
  clear s0 s1 s2 s3 s4 s5 g0 g1
  clear hK K
  try simp only [Act.put, List.setIfInBounds_toArray, List.set_cons_succ, List.set_cons_zero, List.getElem_toArray, List.getElem_cons_zero, List.getElem_cons_succ]
  refine hx_done ?_
  go_end0
  refine ⟨rfl, ?_⟩
  have h7 := (hB.out.set 1 (.slice na (S.pks.length + 1) nc)).drop1.to3.to3.to2
  refine scP_close (S := { S with pks := S.pks ++ [(bt x 1, bt x 2)] }) (tv := .slice ta S.ths.length tc) (pv := .slice na (S.pks.length + 1) nc) hl ?_
  simp only [pVec, List.length_append, List.length_cons, List.length_nil, Nat.zero_add, List.flatMap_append, List.flatMap_cons, List.flatMap_nil, List.append_nil]
  exact h7
set_option maxHeartbeats 4000000 in
set_option maxRecDepth 100000 in
theorem readPick_bad (p : Nat) (S : Sc) (x : ByteArray) (hx : x.size = 8) (hk : S.pks.length ≤ 4096) (h1 : pkB (bt x 1, bt x 2) = false) (w : World) (rs : List Res) (hS : Sep w (scP p S :: rs)) : Calls Tryd.prog 30 #[.pointer (some ⟨p, 0, none⟩), .string x] w fun e w' => e = .returned (.tuple #[]) ∧ Sep w' (scP p S :: rs) := by
  have hg := bt_get x
  have hw : ∀ i, IntKind.i64.wrap (bt x i) = bt x i := fun i => by have := bt_bd x i; exact i64_small _ (by omega) (by omega)
  have hS0 := Lib.hid hS
  have HP := Lib.hid (fun W => pk_any (bt x 1) (bt x 2) W)
  rw [h1] at HP
  replace hS := Lib.hid hS
  go_enter Tryd.func30, Tryd.ntmps30
  go_wp2
  have hS := Lib.hid (show (fun W : World => Sep W (scP p S :: rs)) _ from hS.out.drew)
  refine hx_begin (fun W : World => Sep W (scP p S :: rs)) 8 [(0, true), (1, true), (2, true), (3, true), (4, true), (5, true), (6, true), (7, false), (8, false)] [(7, 8), (6, 8), (0, 8), (1, 8), (2, 8), (3, 8), (4, 8), (5, 8)] (by kernel_rfl) (by kernel_rfl) (by kernel_rfl) (by kernel_rfl) rfl (by kernel_rfl) (by kernel_rfl) (fun _ _ _ _ _ h => h) hS.out ?_
  change HX _ _ _ _ _ _ _ (World.drew _)
  generalize World.drew _ = wd at *
  refine hx_take ?v16 rfl (by kernel_rfl) ?y16 ?z16
  case y16 => intro W hW; skip; replace hW := Lib.hid hW; go_simp; try rfl
  case z16 =>
  simp only [Act.put, List.setIfInBounds_toArray, List.set_cons_succ, List.set_cons_zero, List.getElem_toArray, List.getElem_cons_zero, List.getElem_cons_succ]
  refine hx_take ?v17 rfl (by kernel_rfl) ?y17 ?z17
  case y17 => intro W hW; skip; replace hW := Lib.hid hW; go_simp; try rfl
  case z17 =>
  simp only [Act.put, List.setIfInBounds_toArray, List.set_cons_succ, List.set_cons_zero, List.getElem_toArray, List.getElem_cons_zero, List.getElem_cons_succ]
  refine hx_take ?v18 rfl (by kernel_rfl) ?y18 ?z18
  case y18 => intro W hW; skip; replace hW := Lib.hid hW; go_simp; try rfl
  case z18 =>
  simp only [Act.put, List.setIfInBounds_toArray, List.set_cons_succ, List.set_cons_zero, List.getElem_toArray, List.getElem_cons_zero, List.getElem_cons_succ]
  refine hx_take ?v19 rfl (by kernel_rfl) ?y19 ?z19
  case y19 => intro W hW; skip; replace hW := Lib.hid hW; go_simp; try rfl
  case z19 =>
  simp only [Act.put, List.setIfInBounds_toArray, List.set_cons_succ, List.set_cons_zero, List.getElem_toArray, List.getElem_cons_zero, List.getElem_cons_succ]
  refine hx_take ?v20 rfl (by kernel_rfl) ?y20 ?z20
  case y20 => intro W hW; skip; replace hW := Lib.hid hW; go_simp; try rfl
  case z20 =>
  simp only [Act.put, List.setIfInBounds_toArray, List.set_cons_succ, List.set_cons_zero, List.getElem_toArray, List.getElem_cons_zero, List.getElem_cons_succ]
  refine hx_take ?v21 rfl (by kernel_rfl) ?y21 ?z21
  case y21 => intro W hW; skip; replace hW := Lib.hid hW; go_simp; try rfl
  case z21 =>
  simp only [Act.put, List.setIfInBounds_toArray, List.set_cons_succ, List.set_cons_zero, List.getElem_toArray, List.getElem_cons_zero, List.getElem_cons_succ]
  refine hx_take ?v22 rfl (by kernel_rfl) ?y22 ?z22
  case y22 => intro W hW; skip; replace hW := Lib.hid hW; go_simp; try rfl
  case z22 =>
  simp only [Act.put, List.setIfInBounds_toArray, List.set_cons_succ, List.set_cons_zero, List.getElem_toArray, List.getElem_cons_zero, List.getElem_cons_succ]
  refine hx_one (by decide) rfl (by kernel_rfl) (fun K hK => ?_)
  go_simp
  refine hK.out _ _ (hS.out.allocG (.cells #[.int .i64 0, .int .i64 0] 47)) ?_
  have hB := Lib.hid (hS.out.alloc #[.int .i64 0, .int .i64 0] 47)
  clear hK K
  try simp only [Act.put, List.setIfInBounds_toArray, List.set_cons_succ, List.set_cons_zero, List.getElem_toArray, List.getElem_cons_zero, List.getElem_cons_succ]
  refine hx_last rfl (by kernel_rfl) (fun K hK => ?_)
  obtain ⟨_, c0, c1, f0, f1⟩ := hB.out.b2
  go_simp
  refine hK.out _ _ ?_
  clear c0 c1 f0 f1
  clear hK K
  try simp only [Act.put, List.setIfInBounds_toArray, List.set_cons_succ, List.set_cons_zero, List.getElem_toArray, List.getElem_cons_zero, List.getElem_cons_succ]
  refine hx_done ?_
  clear hB hw hg
  have hB := Lib.hid (hS.out.alloc #[.int .i64 (bt x 1), .int .i64 (bt x 2)] 47)
  clear hS hS0
  generalize hX : wd.heap.size = X at *
  generalize wd.alloc (.cells #[.int .i64 (bt x 1), .int .i64 (bt x 2)] 47) = w1 at *
  clear hX
  obtain ⟨ta, tc, pa, pc, vs, hl, h2⟩ := scP_open hB.out.to1
  obtain ⟨_, b0, b1, _⟩ := (h2.bring 4 rfl).b2
  obtain ⟨_, s0, s1, s2, s3, s4, s5, g0, g1, _⟩ := h2.b6
  replace h2 := Lib.hid h2
  clear hB
  go_wp2_with (first | (go_at_call 44; refine (HP.out _).mono ?_; rintro e w2 ⟨rfl, q2⟩; replace h2 := Lib.hid (h2.out.below q2); clear q2 b0 b1 s0 s1 s2 s3 s4 s5 g0 g1; obtain ⟨_, b0, b1, _⟩ := (h2.out.bring 4 rfl).b2; obtain ⟨_, s0, s1, s2, s3, s4, s5, g0, g1, _⟩ := h2.out.b6) | (go_at_call 48; refine (HT.out _).mono ?_; rintro e w2 ⟨r, rfl, hr, q2⟩; replace h2 := Lib.hid (h2.out.below q2); clear q2 b0 b1 s0 s1 s2 s3 s4 s5 g0 g1; obtain ⟨_, b0, b1, _⟩ := (h2.out.bring 4 rfl).b2; obtain ⟨_, s0, s1, s2, s3, s4, s5, g0, g1, _⟩ := h2.out.b6))
  go_end0
  exact ⟨rfl, scP_close hl (h2.out.bring 4 rfl).tail⟩
set_option maxHeartbeats 4000000 in
set_option maxRecDepth 100000 in
theorem readPick_full (p : Nat) (S : Sc) (x : ByteArray) (hx : x.size = 8) (hk : S.pks.length ≤ 4096) (h1 : pkB (bt x 1, bt x 2) = true) (h2 : ¬ S.pks.length < 4096) (w : World) (rs : List Res) (hS : Sep w (scP p S :: rs)) : Calls Tryd.prog 30 #[.pointer (some ⟨p, 0, none⟩), .string x] w fun e w' => e = .returned (.tuple #[]) ∧ Sep w' (scP p S :: rs) := by
  have hg := bt_get x
  have hw : ∀ i, IntKind.i64.wrap (bt x i) = bt x i := fun i => by have := bt_bd x i; exact i64_small _ (by omega) (by omega)
  have hS0 := Lib.hid hS
  have HP := Lib.hid (fun W => pk_any (bt x 1) (bt x 2) W)
  rw [h1] at HP
  have i2 : ¬ (S.pks.length : Int) < 4096 := by omega
  replace hS := Lib.hid hS
  go_enter Tryd.func30, Tryd.ntmps30
  go_wp2
  have hS := Lib.hid (show (fun W : World => Sep W (scP p S :: rs)) _ from hS.out.drew)
  refine hx_begin (fun W : World => Sep W (scP p S :: rs)) 8 [(0, true), (1, true), (2, true), (3, true), (4, true), (5, true), (6, true), (7, false), (8, false)] [(7, 8), (6, 8), (0, 8), (1, 8), (2, 8), (3, 8), (4, 8), (5, 8)] (by kernel_rfl) (by kernel_rfl) (by kernel_rfl) (by kernel_rfl) rfl (by kernel_rfl) (by kernel_rfl) (fun _ _ _ _ _ h => h) hS.out ?_
  change HX _ _ _ _ _ _ _ (World.drew _)
  generalize World.drew _ = wd at *
  refine hx_take ?v23 rfl (by kernel_rfl) ?y23 ?z23
  case y23 => intro W hW; skip; replace hW := Lib.hid hW; go_simp; try rfl
  case z23 =>
  simp only [Act.put, List.setIfInBounds_toArray, List.set_cons_succ, List.set_cons_zero, List.getElem_toArray, List.getElem_cons_zero, List.getElem_cons_succ]
  refine hx_take ?v24 rfl (by kernel_rfl) ?y24 ?z24
  case y24 => intro W hW; skip; replace hW := Lib.hid hW; go_simp; try rfl
  case z24 =>
  simp only [Act.put, List.setIfInBounds_toArray, List.set_cons_succ, List.set_cons_zero, List.getElem_toArray, List.getElem_cons_zero, List.getElem_cons_succ]
  refine hx_take ?v25 rfl (by kernel_rfl) ?y25 ?z25
  case y25 => intro W hW; skip; replace hW := Lib.hid hW; go_simp; try rfl
  case z25 =>
  simp only [Act.put, List.setIfInBounds_toArray, List.set_cons_succ, List.set_cons_zero, List.getElem_toArray, List.getElem_cons_zero, List.getElem_cons_succ]
  refine hx_take ?v26 rfl (by kernel_rfl) ?y26 ?z26
  case y26 => intro W hW; skip; replace hW := Lib.hid hW; go_simp; try rfl
  case z26 =>
  simp only [Act.put, List.setIfInBounds_toArray, List.set_cons_succ, List.set_cons_zero, List.getElem_toArray, List.getElem_cons_zero, List.getElem_cons_succ]
  refine hx_take ?v27 rfl (by kernel_rfl) ?y27 ?z27
  case y27 => intro W hW; skip; replace hW := Lib.hid hW; go_simp; try rfl
  case z27 =>
  simp only [Act.put, List.setIfInBounds_toArray, List.set_cons_succ, List.set_cons_zero, List.getElem_toArray, List.getElem_cons_zero, List.getElem_cons_succ]
  refine hx_take ?v28 rfl (by kernel_rfl) ?y28 ?z28
  case y28 => intro W hW; skip; replace hW := Lib.hid hW; go_simp; try rfl
  case z28 =>
  simp only [Act.put, List.setIfInBounds_toArray, List.set_cons_succ, List.set_cons_zero, List.getElem_toArray, List.getElem_cons_zero, List.getElem_cons_succ]
  refine hx_take ?v29 rfl (by kernel_rfl) ?y29 ?z29
  case y29 => intro W hW; skip; replace hW := Lib.hid hW; go_simp; try rfl
  case z29 =>
  simp only [Act.put, List.setIfInBounds_toArray, List.set_cons_succ, List.set_cons_zero, List.getElem_toArray, List.getElem_cons_zero, List.getElem_cons_succ]
  refine hx_one (by decide) rfl (by kernel_rfl) (fun K hK => ?_)
  go_simp
  refine hK.out _ _ (hS.out.allocG (.cells #[.int .i64 0, .int .i64 0] 47)) ?_
  have hB := Lib.hid (hS.out.alloc #[.int .i64 0, .int .i64 0] 47)
  clear hK K
  try simp only [Act.put, List.setIfInBounds_toArray, List.set_cons_succ, List.set_cons_zero, List.getElem_toArray, List.getElem_cons_zero, List.getElem_cons_succ]
  refine hx_last rfl (by kernel_rfl) (fun K hK => ?_)
  obtain ⟨_, c0, c1, f0, f1⟩ := hB.out.b2
  go_simp
  refine hK.out _ _ ?_
  clear c0 c1 f0 f1
  clear hK K
  try simp only [Act.put, List.setIfInBounds_toArray, List.set_cons_succ, List.set_cons_zero, List.getElem_toArray, List.getElem_cons_zero, List.getElem_cons_succ]
  refine hx_done ?_
  clear hB hw hg
  have hB := Lib.hid (hS.out.alloc #[.int .i64 (bt x 1), .int .i64 (bt x 2)] 47)
  clear hS hS0
  generalize hX : wd.heap.size = X at *
  generalize wd.alloc (.cells #[.int .i64 (bt x 1), .int .i64 (bt x 2)] 47) = w1 at *
  clear hX
  obtain ⟨ta, tc, pa, pc, vs, hl, h2⟩ := scP_open hB.out.to1
  obtain ⟨_, b0, b1, _⟩ := (h2.bring 4 rfl).b2
  obtain ⟨_, s0, s1, s2, s3, s4, s5, g0, g1, _⟩ := h2.b6
  replace h2 := Lib.hid h2
  clear hB
  go_wp2_with (first | (go_at_call 44; refine (HP.out _).mono ?_; rintro e w2 ⟨rfl, q2⟩; replace h2 := Lib.hid (h2.out.below q2); clear q2 b0 b1 s0 s1 s2 s3 s4 s5 g0 g1; obtain ⟨_, b0, b1, _⟩ := (h2.out.bring 4 rfl).b2; obtain ⟨_, s0, s1, s2, s3, s4, s5, g0, g1, _⟩ := h2.out.b6) | (go_at_call 48; refine (HT.out _).mono ?_; rintro e w2 ⟨r, rfl, hr, q2⟩; replace h2 := Lib.hid (h2.out.below q2); clear q2 b0 b1 s0 s1 s2 s3 s4 s5 g0 g1; obtain ⟨_, b0, b1, _⟩ := (h2.out.bring 4 rfl).b2; obtain ⟨_, s0, s1, s2, s3, s4, s5, g0, g1, _⟩ := h2.out.b6))
  go_end0
  exact ⟨rfl, scP_close hl (h2.out.bring 4 rfl).tail⟩
set_option maxHeartbeats 4000000 in
set_option maxRecDepth 100000 in
theorem readPick_tail (p : Nat) (S : Sc) (x : ByteArray) (hx : x.size = 8) (hk : S.pks.length ≤ 4096) (h1 : pkB (bt x 1, bt x 2) = true) (h2 : S.pks.length < 4096) (h3 : ¬(bt x 3 = 0 ∧ bt x 4 = 0 ∧ bt x 5 = 0 ∧ bt x 6 = 0 ∧ bt x 7 = 0)) (w : World) (rs : List Res) (hS : Sep w (scP p S :: rs)) : Calls Tryd.prog 30 #[.pointer (some ⟨p, 0, none⟩), .string x] w fun e w' => e = .returned (.tuple #[]) ∧ Sep w' (scP p S :: rs) := by
  have hg := bt_get x
  have hw : ∀ i, IntKind.i64.wrap (bt x i) = bt x i := fun i => by have := bt_bd x i; exact i64_small _ (by omega) (by omega)
  have hS0 := Lib.hid hS
  have HP := Lib.hid (fun W => pk_any (bt x 1) (bt x 2) W)
  rw [h1] at HP
  have i2 : (S.pks.length : Int) < 4096 := by omega
  have HT := Lib.hid (fun W => trim_any (x.extract 3 8) (by rw [ByteArray.size_extract]; omega) W)
  rw [zeros3 x hx, decide_eq_false h3] at HT
  replace hS := Lib.hid hS
  go_enter Tryd.func30, Tryd.ntmps30
  go_wp2
  have hS := Lib.hid (show (fun W : World => Sep W (scP p S :: rs)) _ from hS.out.drew)
  refine hx_begin (fun W : World => Sep W (scP p S :: rs)) 8 [(0, true), (1, true), (2, true), (3, true), (4, true), (5, true), (6, true), (7, false), (8, false)] [(7, 8), (6, 8), (0, 8), (1, 8), (2, 8), (3, 8), (4, 8), (5, 8)] (by kernel_rfl) (by kernel_rfl) (by kernel_rfl) (by kernel_rfl) rfl (by kernel_rfl) (by kernel_rfl) (fun _ _ _ _ _ h => h) hS.out ?_
  change HX _ _ _ _ _ _ _ (World.drew _)
  generalize World.drew _ = wd at *
  refine hx_take ?v30 rfl (by kernel_rfl) ?y30 ?z30
  case y30 => intro W hW; skip; replace hW := Lib.hid hW; go_simp; try rfl
  case z30 =>
  simp only [Act.put, List.setIfInBounds_toArray, List.set_cons_succ, List.set_cons_zero, List.getElem_toArray, List.getElem_cons_zero, List.getElem_cons_succ]
  refine hx_take ?v31 rfl (by kernel_rfl) ?y31 ?z31
  case y31 => intro W hW; skip; replace hW := Lib.hid hW; go_simp; try rfl
  case z31 =>
  simp only [Act.put, List.setIfInBounds_toArray, List.set_cons_succ, List.set_cons_zero, List.getElem_toArray, List.getElem_cons_zero, List.getElem_cons_succ]
  refine hx_take ?v32 rfl (by kernel_rfl) ?y32 ?z32
  case y32 => intro W hW; skip; replace hW := Lib.hid hW; go_simp; try rfl
  case z32 =>
  simp only [Act.put, List.setIfInBounds_toArray, List.set_cons_succ, List.set_cons_zero, List.getElem_toArray, List.getElem_cons_zero, List.getElem_cons_succ]
  refine hx_take ?v33 rfl (by kernel_rfl) ?y33 ?z33
  case y33 => intro W hW; skip; replace hW := Lib.hid hW; go_simp; try rfl
  case z33 =>
  simp only [Act.put, List.setIfInBounds_toArray, List.set_cons_succ, List.set_cons_zero, List.getElem_toArray, List.getElem_cons_zero, List.getElem_cons_succ]
  refine hx_take ?v34 rfl (by kernel_rfl) ?y34 ?z34
  case y34 => intro W hW; skip; replace hW := Lib.hid hW; go_simp; try rfl
  case z34 =>
  simp only [Act.put, List.setIfInBounds_toArray, List.set_cons_succ, List.set_cons_zero, List.getElem_toArray, List.getElem_cons_zero, List.getElem_cons_succ]
  refine hx_take ?v35 rfl (by kernel_rfl) ?y35 ?z35
  case y35 => intro W hW; skip; replace hW := Lib.hid hW; go_simp; try rfl
  case z35 =>
  simp only [Act.put, List.setIfInBounds_toArray, List.set_cons_succ, List.set_cons_zero, List.getElem_toArray, List.getElem_cons_zero, List.getElem_cons_succ]
  refine hx_take ?v36 rfl (by kernel_rfl) ?y36 ?z36
  case y36 => intro W hW; skip; replace hW := Lib.hid hW; go_simp; try rfl
  case z36 =>
  simp only [Act.put, List.setIfInBounds_toArray, List.set_cons_succ, List.set_cons_zero, List.getElem_toArray, List.getElem_cons_zero, List.getElem_cons_succ]
  refine hx_one (by decide) rfl (by kernel_rfl) (fun K hK => ?_)
  go_simp
  refine hK.out _ _ (hS.out.allocG (.cells #[.int .i64 0, .int .i64 0] 47)) ?_
  have hB := Lib.hid (hS.out.alloc #[.int .i64 0, .int .i64 0] 47)
  clear hK K
  try simp only [Act.put, List.setIfInBounds_toArray, List.set_cons_succ, List.set_cons_zero, List.getElem_toArray, List.getElem_cons_zero, List.getElem_cons_succ]
  refine hx_last rfl (by kernel_rfl) (fun K hK => ?_)
  obtain ⟨_, c0, c1, f0, f1⟩ := hB.out.b2
  go_simp
  refine hK.out _ _ ?_
  clear c0 c1 f0 f1
  clear hK K
  try simp only [Act.put, List.setIfInBounds_toArray, List.set_cons_succ, List.set_cons_zero, List.getElem_toArray, List.getElem_cons_zero, List.getElem_cons_succ]
  refine hx_done ?_
  clear hB hw hg
  have hB := Lib.hid (hS.out.alloc #[.int .i64 (bt x 1), .int .i64 (bt x 2)] 47)
  clear hS hS0
  generalize hX : wd.heap.size = X at *
  generalize wd.alloc (.cells #[.int .i64 (bt x 1), .int .i64 (bt x 2)] 47) = w1 at *
  clear hX
  obtain ⟨ta, tc, pa, pc, vs, hl, h2⟩ := scP_open hB.out.to1
  obtain ⟨_, b0, b1, _⟩ := (h2.bring 4 rfl).b2
  obtain ⟨_, s0, s1, s2, s3, s4, s5, g0, g1, _⟩ := h2.b6
  replace h2 := Lib.hid h2
  clear hB
  go_wp2_with (first | (go_at_call 44; refine (HP.out _).mono ?_; rintro e w2 ⟨rfl, q2⟩; replace h2 := Lib.hid (h2.out.below q2); clear q2 b0 b1 s0 s1 s2 s3 s4 s5 g0 g1; obtain ⟨_, b0, b1, _⟩ := (h2.out.bring 4 rfl).b2; obtain ⟨_, s0, s1, s2, s3, s4, s5, g0, g1, _⟩ := h2.out.b6) | (go_at_call 48; refine (HT.out _).mono ?_; rintro e w2 ⟨r, rfl, hr, q2⟩; replace h2 := Lib.hid (h2.out.below q2); clear q2 b0 b1 s0 s1 s2 s3 s4 s5 g0 g1; obtain ⟨_, b0, b1, _⟩ := (h2.out.bring 4 rfl).b2; obtain ⟨_, s0, s1, s2, s3, s4, s5, g0, g1, _⟩ := h2.out.b6))
  go_end0
  exact ⟨rfl, scP_close hl (h2.out.bring 4 rfl).tail⟩
theorem readPick_any (p : Nat) (S : Sc) (x : ByteArray) (hx : x.size = 8) (hk : S.pks.length ≤ 4096) (h0 : bt x 0 = 3) (w : World) (rs : List Res) (hS : Sep w (scP p S :: rs)) : Calls Tryd.prog 30 #[.pointer (some ⟨p, 0, none⟩), .string x] w fun e w' => e = .returned (.tuple #[]) ∧ Sep w' (scP p (stepS S (bt x)) :: rs) := by
  have e : stepS S (bt x) = if isPk (bt x) && decide (S.pks.length < 4096) then { S with pks := S.pks ++ [(bt x 1, bt x 2)] } else S := by
    unfold stepS
    rw [if_neg (by rw [h0]; decide), if_neg (by rw [h0]; decide), if_pos h0]
  have e1 : pkB (bt x 1, bt x 2) = decide (1 ≤ bt x 1 ∧ bt x 1 ≤ 4) := by
    have := bt_bd x 2
    unfold pkB fitB
    simp only [if_true]
    rw [decide_eq_true this.1, decide_eq_true this.2, Bool.and_self, Bool.and_true]
  rw [e]
  unfold isPk
  rw [← e1]
  cases h1 : pkB (bt x 1, bt x 2) with
  | false => exact readPick_bad p S x hx hk h1 w rs hS
  | true =>
    by_cases h2 : S.pks.length < 4096
    · by_cases h3 : bt x 3 = 0 ∧ bt x 4 = 0 ∧ bt x 5 = 0 ∧ bt x 6 = 0 ∧ bt x 7 = 0
      · rw [decide_eq_true h2, decide_eq_true h3]
        exact readPick_all p S x hx hk h1 h2 h3 w rs hS
      · rw [decide_eq_true h2, decide_eq_false h3]
        exact readPick_tail p S x hx hk h1 h2 h3 w rs hS
    · rw [decide_eq_false h2, Bool.and_false]
      exact readPick_full p S x hx hk h1 h2 w rs hS
set_option maxHeartbeats 4000000 in
set_option maxRecDepth 100000 in
theorem readCaps_all (p : Nat) (S : Sc) (x : ByteArray) (hx : x.size = 8) (h8 : S.ths.length ≤ 8) (h1 : capB (bt x 1) (bt x 2) (bt x 3) (bt x 4) = true) (h2 : 1 ≤ bt x 5) (h4 : bt x 5 ≤ 8) (h3 : bt x 6 = 0 ∧ bt x 7 = 0) (w : World) (rs : List Res) (hS : Sep w (scP p S :: rs)) : Calls Tryd.prog 28 #[.pointer (some ⟨p, 0, none⟩), .string x] w fun e w' => e = .returned (.tuple #[]) ∧ Sep w' (scP p { S with ths := growL S.ths (bt x 5).toNat, c0 := bt x 1, c1 := bt x 2, c2 := bt x 3, c3 := bt x 4 } :: rs) := by
  have hg := bt_get x
  have hw : ∀ i, IntKind.i64.wrap (bt x i) = bt x i := fun i => by have := bt_bd x i; exact i64_small _ (by omega) (by omega)
  have HP := Lib.hid (fun W => caps_any (bt x 1) (bt x 2) (bt x 3) (bt x 4) W)
  rw [h1] at HP
  have HT := Lib.hid (fun W => trim_any (x.extract 6 8) (by rw [ByteArray.size_extract]; omega) W)
  rw [zeros6 x hx, decide_eq_true h3] at HT
  obtain ⟨n, hn⟩ := Int.eq_ofNat_of_zero_le (show 0 ≤ bt x 5 by omega)
  have HG := fun W h => grow_any p { S with c0 := bt x 1, c1 := bt x 2, c2 := bt x 3, c3 := bt x 4 } n W rs (by omega) h8 h
  have hn2 : (bt x 5).toNat = n := by rw [hn]; rfl
  rw [← hn] at HG
  rw [hn2]
  replace HG := Lib.hid HG
  clear hn hn2
  replace hS := Lib.hid hS
  go_enter Tryd.func28, Tryd.ntmps28
  go_wp2
  have hS := Lib.hid (show (fun W : World => Sep W (scP p S :: rs)) _ from hS.out.drew)
  refine hx_begin (fun W : World => Sep W (scP p S :: rs)) 14 [(0, true), (1, true), (2, true), (3, true), (4, true), (5, true), (6, true), (7, true), (8, true), (9, true), (10, true), (11, true), (12, true), (13, false), (14, false)] [(13, 14), (12, 14), (0, 14), (1, 14), (2, 14), (3, 14), (4, 14), (5, 14), (6, 14), (7, 14), (8, 14), (9, 14), (10, 14), (11, 14)] (by kernel_rfl) (by kernel_rfl) (by kernel_rfl) (by kernel_rfl) rfl (by kernel_rfl) (by kernel_rfl) (fun _ _ _ _ _ h => h) hS.out ?_
  change HX _ _ _ _ _ _ _ (World.drew _)
  generalize World.drew _ = wd at *
  refine hx_take ?v37 rfl (by kernel_rfl) ?y37 ?z37
  case y37 => intro W hW; skip; replace hW := Lib.hid hW; go_simp; try rfl
  case z37 =>
  simp only [Act.put, List.setIfInBounds_toArray, List.set_cons_succ, List.set_cons_zero, List.getElem_toArray, List.getElem_cons_zero, List.getElem_cons_succ]
  refine hx_take ?v38 rfl (by kernel_rfl) ?y38 ?z38
  case y38 => intro W hW; skip; replace hW := Lib.hid hW; go_simp; try rfl
  case z38 =>
  simp only [Act.put, List.setIfInBounds_toArray, List.set_cons_succ, List.set_cons_zero, List.getElem_toArray, List.getElem_cons_zero, List.getElem_cons_succ]
  refine hx_take ?v39 rfl (by kernel_rfl) ?y39 ?z39
  case y39 => intro W hW; skip; replace hW := Lib.hid hW; go_simp; try rfl
  case z39 =>
  simp only [Act.put, List.setIfInBounds_toArray, List.set_cons_succ, List.set_cons_zero, List.getElem_toArray, List.getElem_cons_zero, List.getElem_cons_succ]
  refine hx_take ?v40 rfl (by kernel_rfl) ?y40 ?z40
  case y40 => intro W hW; skip; replace hW := Lib.hid hW; go_simp; try rfl
  case z40 =>
  simp only [Act.put, List.setIfInBounds_toArray, List.set_cons_succ, List.set_cons_zero, List.getElem_toArray, List.getElem_cons_zero, List.getElem_cons_succ]
  refine hx_take ?v41 rfl (by kernel_rfl) ?y41 ?z41
  case y41 => intro W hW; skip; replace hW := Lib.hid hW; go_simp; try rfl
  case z41 =>
  simp only [Act.put, List.setIfInBounds_toArray, List.set_cons_succ, List.set_cons_zero, List.getElem_toArray, List.getElem_cons_zero, List.getElem_cons_succ]
  refine hx_take ?v42 rfl (by kernel_rfl) ?y42 ?z42
  case y42 => intro W hW; skip; replace hW := Lib.hid hW; go_simp; try rfl
  case z42 =>
  simp only [Act.put, List.setIfInBounds_toArray, List.set_cons_succ, List.set_cons_zero, List.getElem_toArray, List.getElem_cons_zero, List.getElem_cons_succ]
  refine hx_take ?v43 rfl (by kernel_rfl) ?y43 ?z43
  case y43 => intro W hW; skip; replace hW := Lib.hid hW; go_simp; try rfl
  case z43 =>
  simp only [Act.put, List.setIfInBounds_toArray, List.set_cons_succ, List.set_cons_zero, List.getElem_toArray, List.getElem_cons_zero, List.getElem_cons_succ]
  refine hx_take ?v44 rfl (by kernel_rfl) ?y44 ?z44
  case y44 => intro W hW; skip; replace hW := Lib.hid hW; go_simp; try rfl
  case z44 =>
  simp only [Act.put, List.setIfInBounds_toArray, List.set_cons_succ, List.set_cons_zero, List.getElem_toArray, List.getElem_cons_zero, List.getElem_cons_succ]
  refine hx_take ?v45 rfl (by kernel_rfl) ?y45 ?z45
  case y45 => intro W hW; skip; replace hW := Lib.hid hW; go_simp; try rfl
  case z45 =>
  simp only [Act.put, List.setIfInBounds_toArray, List.set_cons_succ, List.set_cons_zero, List.getElem_toArray, List.getElem_cons_zero, List.getElem_cons_succ]
  refine hx_take ?v46 rfl (by kernel_rfl) ?y46 ?z46
  case y46 => intro W hW; skip; replace hW := Lib.hid hW; go_simp; try rfl
  case z46 =>
  simp only [Act.put, List.setIfInBounds_toArray, List.set_cons_succ, List.set_cons_zero, List.getElem_toArray, List.getElem_cons_zero, List.getElem_cons_succ]
  refine hx_take ?v47 rfl (by kernel_rfl) ?y47 ?z47
  case y47 => intro W hW; skip; replace hW := Lib.hid hW; go_simp; try rfl
  case z47 =>
  simp only [Act.put, List.setIfInBounds_toArray, List.set_cons_succ, List.set_cons_zero, List.getElem_toArray, List.getElem_cons_zero, List.getElem_cons_succ]
  refine hx_take ?v48 rfl (by kernel_rfl) ?y48 ?z48
  case y48 => intro W hW; skip; replace hW := Lib.hid hW; go_simp; try rfl
  case z48 =>
  simp only [Act.put, List.setIfInBounds_toArray, List.set_cons_succ, List.set_cons_zero, List.getElem_toArray, List.getElem_cons_zero, List.getElem_cons_succ]
  refine hx_take ?v49 rfl (by kernel_rfl) ?y49 ?z49
  case y49 => intro W hW; skip; replace hW := Lib.hid hW; go_simp; try rfl
  case z49 =>
  simp only [Act.put, List.setIfInBounds_toArray, List.set_cons_succ, List.set_cons_zero, List.getElem_toArray, List.getElem_cons_zero, List.getElem_cons_succ]
  refine hx_one (by decide) rfl (by kernel_rfl) (fun K hK => ?_)
  go_simp
  refine hK.out _ _ (hS.out.allocG (.cells #[.int .i64 0, .int .i64 0, .int .i64 0, .int .i64 0] 28)) ?_
  have hB := Lib.hid (hS.out.alloc #[.int .i64 0, .int .i64 0, .int .i64 0, .int .i64 0] 28)
  clear hK K
  try simp only [Act.put, List.setIfInBounds_toArray, List.set_cons_succ, List.set_cons_zero, List.getElem_toArray, List.getElem_cons_zero, List.getElem_cons_succ]
  refine hx_last rfl (by kernel_rfl) (fun K hK => ?_)
  obtain ⟨_, c0, c1, c2, c3, f0, f1, f2, f3⟩ := hB.out.b4
  go_simp
  refine hK.out _ _ ?_
  clear c0 c1 c2 c3 f0 f1 f2 f3
  clear hK K
  try simp only [Act.put, List.setIfInBounds_toArray, List.set_cons_succ, List.set_cons_zero, List.getElem_toArray, List.getElem_cons_zero, List.getElem_cons_succ]
  refine hx_done ?_
  clear hB
  have hB := Lib.hid (hS.out.alloc #[.int .i64 (bt x 1), .int .i64 (bt x 2), .int .i64 (bt x 3), .int .i64 (bt x 4)] 28)
  clear hS
  generalize hX : wd.heap.size = X at *
  generalize wd.alloc (.cells #[.int .i64 (bt x 1), .int .i64 (bt x 2), .int .i64 (bt x 3), .int .i64 (bt x 4)] 28) = w1 at *
  clear hX
  obtain ⟨ta, tc, pa, pc, vs, hl, h2⟩ := scP_open hB.out.to1
  obtain ⟨_, b0, b1, b2, b3, _⟩ := (h2.bring 4 rfl).b4
  obtain ⟨_, s0, s1, s2, s3, s4, s5, g0, g1, g2, g3, g4, g5⟩ := h2.b6
  replace h2 := Lib.hid h2
  clear hB
  go_wp2_with (first | (go_at_call 40; refine (HP.out _).mono ?_; rintro e w2 ⟨rfl, q2⟩; replace h2 := Lib.hid (h2.out.below q2); clear q2 b0 b1 b2 b3 s0 s1 s2 s3 s4 s5 g0 g1 g2 g3 g4 g5; obtain ⟨_, b0, b1, b2, b3, _⟩ := (h2.out.bring 4 rfl).b4; obtain ⟨_, s0, s1, s2, s3, s4, s5, g0, g1, g2, g3, g4, g5⟩ := h2.out.b6) | (go_at_call 48; refine (HT.out _).mono ?_; rintro e w2 ⟨r, rfl, hr, q2⟩; replace h2 := Lib.hid (h2.out.below q2); clear q2 b0 b1 b2 b3 s0 s1 s2 s3 s4 s5 g0 g1 g2 g3 g4 g5; obtain ⟨_, b0, b1, b2, b3, _⟩ := (h2.out.bring 4 rfl).b4; obtain ⟨_, s0, s1, s2, s3, s4, s5, g0, g1, g2, g3, g4, g5⟩ := h2.out.b6) | fail)
  have hC := Lib.hid (scP_close (S := { S with c0 := bt x 1, c1 := bt x 2, c2 := bt x 3, c3 := bt x 4 }) (tv := .slice ta S.ths.length tc) (pv := .slice pa S.pks.length pc) hl (((((h2.out.set 2 (.int .i64 (bt x 1))).set 3 (.int .i64 (bt x 2))).set 4 (.int .i64 (bt x 3))).set 5 (.int .i64 (bt x 4))).bring 4 rfl).tail)
  clear b0 b1 b2 b3 s0 s1 s2 s3 s4 s5 g0 g1 g2 g3 g4 g5 h2
  refine (HG.out _ hC.out).mono ?_
  rintro e w9 ⟨rfl, h9⟩
  replace h9 := Lib.hid h9
  clear hC
  go_wp2_with fail
  go_end0
  exact ⟨rfl, h9.out⟩
set_option maxHeartbeats 4000000 in
set_option maxRecDepth 100000 in
theorem readCaps_bad (p : Nat) (S : Sc) (x : ByteArray) (hx : x.size = 8) (h8 : S.ths.length ≤ 8) (h1 : capB (bt x 1) (bt x 2) (bt x 3) (bt x 4) = false) (w : World) (rs : List Res) (hS : Sep w (scP p S :: rs)) : Calls Tryd.prog 28 #[.pointer (some ⟨p, 0, none⟩), .string x] w fun e w' => e = .returned (.tuple #[]) ∧ Sep w' (scP p S :: rs) := by
  have hg := bt_get x
  have hw : ∀ i, IntKind.i64.wrap (bt x i) = bt x i := fun i => by have := bt_bd x i; exact i64_small _ (by omega) (by omega)
  have HP := Lib.hid (fun W => caps_any (bt x 1) (bt x 2) (bt x 3) (bt x 4) W)
  rw [h1] at HP
  replace hS := Lib.hid hS
  go_enter Tryd.func28, Tryd.ntmps28
  go_wp2
  have hS := Lib.hid (show (fun W : World => Sep W (scP p S :: rs)) _ from hS.out.drew)
  refine hx_begin (fun W : World => Sep W (scP p S :: rs)) 14 [(0, true), (1, true), (2, true), (3, true), (4, true), (5, true), (6, true), (7, true), (8, true), (9, true), (10, true), (11, true), (12, true), (13, false), (14, false)] [(13, 14), (12, 14), (0, 14), (1, 14), (2, 14), (3, 14), (4, 14), (5, 14), (6, 14), (7, 14), (8, 14), (9, 14), (10, 14), (11, 14)] (by kernel_rfl) (by kernel_rfl) (by kernel_rfl) (by kernel_rfl) rfl (by kernel_rfl) (by kernel_rfl) (fun _ _ _ _ _ h => h) hS.out ?_
  change HX _ _ _ _ _ _ _ (World.drew _)
  generalize World.drew _ = wd at *
  refine hx_take ?v50 rfl (by kernel_rfl) ?y50 ?z50
  case y50 => intro W hW; skip; replace hW := Lib.hid hW; go_simp; try rfl
  case z50 =>
  simp only [Act.put, List.setIfInBounds_toArray, List.set_cons_succ, List.set_cons_zero, List.getElem_toArray, List.getElem_cons_zero, List.getElem_cons_succ]
  refine hx_take ?v51 rfl (by kernel_rfl) ?y51 ?z51
  case y51 => intro W hW; skip; replace hW := Lib.hid hW; go_simp; try rfl
  case z51 =>
  simp only [Act.put, List.setIfInBounds_toArray, List.set_cons_succ, List.set_cons_zero, List.getElem_toArray, List.getElem_cons_zero, List.getElem_cons_succ]
  refine hx_take ?v52 rfl (by kernel_rfl) ?y52 ?z52
  case y52 => intro W hW; skip; replace hW := Lib.hid hW; go_simp; try rfl
  case z52 =>
  simp only [Act.put, List.setIfInBounds_toArray, List.set_cons_succ, List.set_cons_zero, List.getElem_toArray, List.getElem_cons_zero, List.getElem_cons_succ]
  refine hx_take ?v53 rfl (by kernel_rfl) ?y53 ?z53
  case y53 => intro W hW; skip; replace hW := Lib.hid hW; go_simp; try rfl
  case z53 =>
  simp only [Act.put, List.setIfInBounds_toArray, List.set_cons_succ, List.set_cons_zero, List.getElem_toArray, List.getElem_cons_zero, List.getElem_cons_succ]
  refine hx_take ?v54 rfl (by kernel_rfl) ?y54 ?z54
  case y54 => intro W hW; skip; replace hW := Lib.hid hW; go_simp; try rfl
  case z54 =>
  simp only [Act.put, List.setIfInBounds_toArray, List.set_cons_succ, List.set_cons_zero, List.getElem_toArray, List.getElem_cons_zero, List.getElem_cons_succ]
  refine hx_take ?v55 rfl (by kernel_rfl) ?y55 ?z55
  case y55 => intro W hW; skip; replace hW := Lib.hid hW; go_simp; try rfl
  case z55 =>
  simp only [Act.put, List.setIfInBounds_toArray, List.set_cons_succ, List.set_cons_zero, List.getElem_toArray, List.getElem_cons_zero, List.getElem_cons_succ]
  refine hx_take ?v56 rfl (by kernel_rfl) ?y56 ?z56
  case y56 => intro W hW; skip; replace hW := Lib.hid hW; go_simp; try rfl
  case z56 =>
  simp only [Act.put, List.setIfInBounds_toArray, List.set_cons_succ, List.set_cons_zero, List.getElem_toArray, List.getElem_cons_zero, List.getElem_cons_succ]
  refine hx_take ?v57 rfl (by kernel_rfl) ?y57 ?z57
  case y57 => intro W hW; skip; replace hW := Lib.hid hW; go_simp; try rfl
  case z57 =>
  simp only [Act.put, List.setIfInBounds_toArray, List.set_cons_succ, List.set_cons_zero, List.getElem_toArray, List.getElem_cons_zero, List.getElem_cons_succ]
  refine hx_take ?v58 rfl (by kernel_rfl) ?y58 ?z58
  case y58 => intro W hW; skip; replace hW := Lib.hid hW; go_simp; try rfl
  case z58 =>
  simp only [Act.put, List.setIfInBounds_toArray, List.set_cons_succ, List.set_cons_zero, List.getElem_toArray, List.getElem_cons_zero, List.getElem_cons_succ]
  refine hx_take ?v59 rfl (by kernel_rfl) ?y59 ?z59
  case y59 => intro W hW; skip; replace hW := Lib.hid hW; go_simp; try rfl
  case z59 =>
  simp only [Act.put, List.setIfInBounds_toArray, List.set_cons_succ, List.set_cons_zero, List.getElem_toArray, List.getElem_cons_zero, List.getElem_cons_succ]
  refine hx_take ?v60 rfl (by kernel_rfl) ?y60 ?z60
  case y60 => intro W hW; skip; replace hW := Lib.hid hW; go_simp; try rfl
  case z60 =>
  simp only [Act.put, List.setIfInBounds_toArray, List.set_cons_succ, List.set_cons_zero, List.getElem_toArray, List.getElem_cons_zero, List.getElem_cons_succ]
  refine hx_take ?v61 rfl (by kernel_rfl) ?y61 ?z61
  case y61 => intro W hW; skip; replace hW := Lib.hid hW; go_simp; try rfl
  case z61 =>
  simp only [Act.put, List.setIfInBounds_toArray, List.set_cons_succ, List.set_cons_zero, List.getElem_toArray, List.getElem_cons_zero, List.getElem_cons_succ]
  refine hx_take ?v62 rfl (by kernel_rfl) ?y62 ?z62
  case y62 => intro W hW; skip; replace hW := Lib.hid hW; go_simp; try rfl
  case z62 =>
  simp only [Act.put, List.setIfInBounds_toArray, List.set_cons_succ, List.set_cons_zero, List.getElem_toArray, List.getElem_cons_zero, List.getElem_cons_succ]
  refine hx_one (by decide) rfl (by kernel_rfl) (fun K hK => ?_)
  go_simp
  refine hK.out _ _ (hS.out.allocG (.cells #[.int .i64 0, .int .i64 0, .int .i64 0, .int .i64 0] 28)) ?_
  have hB := Lib.hid (hS.out.alloc #[.int .i64 0, .int .i64 0, .int .i64 0, .int .i64 0] 28)
  clear hK K
  try simp only [Act.put, List.setIfInBounds_toArray, List.set_cons_succ, List.set_cons_zero, List.getElem_toArray, List.getElem_cons_zero, List.getElem_cons_succ]
  refine hx_last rfl (by kernel_rfl) (fun K hK => ?_)
  obtain ⟨_, c0, c1, c2, c3, f0, f1, f2, f3⟩ := hB.out.b4
  go_simp
  refine hK.out _ _ ?_
  clear c0 c1 c2 c3 f0 f1 f2 f3
  clear hK K
  try simp only [Act.put, List.setIfInBounds_toArray, List.set_cons_succ, List.set_cons_zero, List.getElem_toArray, List.getElem_cons_zero, List.getElem_cons_succ]
  refine hx_done ?_
  clear hB
  have hB := Lib.hid (hS.out.alloc #[.int .i64 (bt x 1), .int .i64 (bt x 2), .int .i64 (bt x 3), .int .i64 (bt x 4)] 28)
  clear hS
  generalize hX : wd.heap.size = X at *
  generalize wd.alloc (.cells #[.int .i64 (bt x 1), .int .i64 (bt x 2), .int .i64 (bt x 3), .int .i64 (bt x 4)] 28) = w1 at *
  clear hX
  obtain ⟨ta, tc, pa, pc, vs, hl, h2⟩ := scP_open hB.out.to1
  obtain ⟨_, b0, b1, b2, b3, _⟩ := (h2.bring 4 rfl).b4
  obtain ⟨_, s0, s1, s2, s3, s4, s5, g0, g1, g2, g3, g4, g5⟩ := h2.b6
  replace h2 := Lib.hid h2
  clear hB
  go_wp2_with (first | (go_at_call 40; refine (HP.out _).mono ?_; rintro e w2 ⟨rfl, q2⟩; replace h2 := Lib.hid (h2.out.below q2); clear q2 b0 b1 b2 b3 s0 s1 s2 s3 s4 s5 g0 g1 g2 g3 g4 g5; obtain ⟨_, b0, b1, b2, b3, _⟩ := (h2.out.bring 4 rfl).b4; obtain ⟨_, s0, s1, s2, s3, s4, s5, g0, g1, g2, g3, g4, g5⟩ := h2.out.b6) | (go_at_call 48; refine (HT.out _).mono ?_; rintro e w2 ⟨r, rfl, hr, q2⟩; replace h2 := Lib.hid (h2.out.below q2); clear q2 b0 b1 b2 b3 s0 s1 s2 s3 s4 s5 g0 g1 g2 g3 g4 g5; obtain ⟨_, b0, b1, b2, b3, _⟩ := (h2.out.bring 4 rfl).b4; obtain ⟨_, s0, s1, s2, s3, s4, s5, g0, g1, g2, g3, g4, g5⟩ := h2.out.b6) | fail)
  go_end0
  exact ⟨rfl, scP_close hl (h2.out.bring 4 rfl).tail⟩
set_option maxHeartbeats 4000000 in
set_option maxRecDepth 100000 in
theorem readCaps_low (p : Nat) (S : Sc) (x : ByteArray) (hx : x.size = 8) (h8 : S.ths.length ≤ 8) (h1 : capB (bt x 1) (bt x 2) (bt x 3) (bt x 4) = true) (h2 : ¬ 1 ≤ bt x 5) (w : World) (rs : List Res) (hS : Sep w (scP p S :: rs)) : Calls Tryd.prog 28 #[.pointer (some ⟨p, 0, none⟩), .string x] w fun e w' => e = .returned (.tuple #[]) ∧ Sep w' (scP p S :: rs) := by
  have hg := bt_get x
  have hw : ∀ i, IntKind.i64.wrap (bt x i) = bt x i := fun i => by have := bt_bd x i; exact i64_small _ (by omega) (by omega)
  have HP := Lib.hid (fun W => caps_any (bt x 1) (bt x 2) (bt x 3) (bt x 4) W)
  rw [h1] at HP
  replace hS := Lib.hid hS
  go_enter Tryd.func28, Tryd.ntmps28
  go_wp2
  have hS := Lib.hid (show (fun W : World => Sep W (scP p S :: rs)) _ from hS.out.drew)
  refine hx_begin (fun W : World => Sep W (scP p S :: rs)) 14 [(0, true), (1, true), (2, true), (3, true), (4, true), (5, true), (6, true), (7, true), (8, true), (9, true), (10, true), (11, true), (12, true), (13, false), (14, false)] [(13, 14), (12, 14), (0, 14), (1, 14), (2, 14), (3, 14), (4, 14), (5, 14), (6, 14), (7, 14), (8, 14), (9, 14), (10, 14), (11, 14)] (by kernel_rfl) (by kernel_rfl) (by kernel_rfl) (by kernel_rfl) rfl (by kernel_rfl) (by kernel_rfl) (fun _ _ _ _ _ h => h) hS.out ?_
  change HX _ _ _ _ _ _ _ (World.drew _)
  generalize World.drew _ = wd at *
  refine hx_take ?v63 rfl (by kernel_rfl) ?y63 ?z63
  case y63 => intro W hW; skip; replace hW := Lib.hid hW; go_simp; try rfl
  case z63 =>
  simp only [Act.put, List.setIfInBounds_toArray, List.set_cons_succ, List.set_cons_zero, List.getElem_toArray, List.getElem_cons_zero, List.getElem_cons_succ]
  refine hx_take ?v64 rfl (by kernel_rfl) ?y64 ?z64
  case y64 => intro W hW; skip; replace hW := Lib.hid hW; go_simp; try rfl
  case z64 =>
  simp only [Act.put, List.setIfInBounds_toArray, List.set_cons_succ, List.set_cons_zero, List.getElem_toArray, List.getElem_cons_zero, List.getElem_cons_succ]
  refine hx_take ?v65 rfl (by kernel_rfl) ?y65 ?z65
  case y65 => intro W hW; skip; replace hW := Lib.hid hW; go_simp; try rfl
  case z65 =>
  simp only [Act.put, List.setIfInBounds_toArray, List.set_cons_succ, List.set_cons_zero, List.getElem_toArray, List.getElem_cons_zero, List.getElem_cons_succ]
  refine hx_take ?v66 rfl (by kernel_rfl) ?y66 ?z66
  case y66 => intro W hW; skip; replace hW := Lib.hid hW; go_simp; try rfl
  case z66 =>
  simp only [Act.put, List.setIfInBounds_toArray, List.set_cons_succ, List.set_cons_zero, List.getElem_toArray, List.getElem_cons_zero, List.getElem_cons_succ]
  refine hx_take ?v67 rfl (by kernel_rfl) ?y67 ?z67
  case y67 => intro W hW; skip; replace hW := Lib.hid hW; go_simp; try rfl
  case z67 =>
  simp only [Act.put, List.setIfInBounds_toArray, List.set_cons_succ, List.set_cons_zero, List.getElem_toArray, List.getElem_cons_zero, List.getElem_cons_succ]
  refine hx_take ?v68 rfl (by kernel_rfl) ?y68 ?z68
  case y68 => intro W hW; skip; replace hW := Lib.hid hW; go_simp; try rfl
  case z68 =>
  simp only [Act.put, List.setIfInBounds_toArray, List.set_cons_succ, List.set_cons_zero, List.getElem_toArray, List.getElem_cons_zero, List.getElem_cons_succ]
  refine hx_take ?v69 rfl (by kernel_rfl) ?y69 ?z69
  case y69 => intro W hW; skip; replace hW := Lib.hid hW; go_simp; try rfl
  case z69 =>
  simp only [Act.put, List.setIfInBounds_toArray, List.set_cons_succ, List.set_cons_zero, List.getElem_toArray, List.getElem_cons_zero, List.getElem_cons_succ]
  refine hx_take ?v70 rfl (by kernel_rfl) ?y70 ?z70
  case y70 => intro W hW; skip; replace hW := Lib.hid hW; go_simp; try rfl
  case z70 =>
  simp only [Act.put, List.setIfInBounds_toArray, List.set_cons_succ, List.set_cons_zero, List.getElem_toArray, List.getElem_cons_zero, List.getElem_cons_succ]
  refine hx_take ?v71 rfl (by kernel_rfl) ?y71 ?z71
  case y71 => intro W hW; skip; replace hW := Lib.hid hW; go_simp; try rfl
  case z71 =>
  simp only [Act.put, List.setIfInBounds_toArray, List.set_cons_succ, List.set_cons_zero, List.getElem_toArray, List.getElem_cons_zero, List.getElem_cons_succ]
  refine hx_take ?v72 rfl (by kernel_rfl) ?y72 ?z72
  case y72 => intro W hW; skip; replace hW := Lib.hid hW; go_simp; try rfl
  case z72 =>
  simp only [Act.put, List.setIfInBounds_toArray, List.set_cons_succ, List.set_cons_zero, List.getElem_toArray, List.getElem_cons_zero, List.getElem_cons_succ]
  refine hx_take ?v73 rfl (by kernel_rfl) ?y73 ?z73
  case y73 => intro W hW; skip; replace hW := Lib.hid hW; go_simp; try rfl
  case z73 =>
  simp only [Act.put, List.setIfInBounds_toArray, List.set_cons_succ, List.set_cons_zero, List.getElem_toArray, List.getElem_cons_zero, List.getElem_cons_succ]
  refine hx_take ?v74 rfl (by kernel_rfl) ?y74 ?z74
  case y74 => intro W hW; skip; replace hW := Lib.hid hW; go_simp; try rfl
  case z74 =>
  simp only [Act.put, List.setIfInBounds_toArray, List.set_cons_succ, List.set_cons_zero, List.getElem_toArray, List.getElem_cons_zero, List.getElem_cons_succ]
  refine hx_take ?v75 rfl (by kernel_rfl) ?y75 ?z75
  case y75 => intro W hW; skip; replace hW := Lib.hid hW; go_simp; try rfl
  case z75 =>
  simp only [Act.put, List.setIfInBounds_toArray, List.set_cons_succ, List.set_cons_zero, List.getElem_toArray, List.getElem_cons_zero, List.getElem_cons_succ]
  refine hx_one (by decide) rfl (by kernel_rfl) (fun K hK => ?_)
  go_simp
  refine hK.out _ _ (hS.out.allocG (.cells #[.int .i64 0, .int .i64 0, .int .i64 0, .int .i64 0] 28)) ?_
  have hB := Lib.hid (hS.out.alloc #[.int .i64 0, .int .i64 0, .int .i64 0, .int .i64 0] 28)
  clear hK K
  try simp only [Act.put, List.setIfInBounds_toArray, List.set_cons_succ, List.set_cons_zero, List.getElem_toArray, List.getElem_cons_zero, List.getElem_cons_succ]
  refine hx_last rfl (by kernel_rfl) (fun K hK => ?_)
  obtain ⟨_, c0, c1, c2, c3, f0, f1, f2, f3⟩ := hB.out.b4
  go_simp
  refine hK.out _ _ ?_
  clear c0 c1 c2 c3 f0 f1 f2 f3
  clear hK K
  try simp only [Act.put, List.setIfInBounds_toArray, List.set_cons_succ, List.set_cons_zero, List.getElem_toArray, List.getElem_cons_zero, List.getElem_cons_succ]
  refine hx_done ?_
  clear hB
  have hB := Lib.hid (hS.out.alloc #[.int .i64 (bt x 1), .int .i64 (bt x 2), .int .i64 (bt x 3), .int .i64 (bt x 4)] 28)
  clear hS
  generalize hX : wd.heap.size = X at *
  generalize wd.alloc (.cells #[.int .i64 (bt x 1), .int .i64 (bt x 2), .int .i64 (bt x 3), .int .i64 (bt x 4)] 28) = w1 at *
  clear hX
  obtain ⟨ta, tc, pa, pc, vs, hl, h2⟩ := scP_open hB.out.to1
  obtain ⟨_, b0, b1, b2, b3, _⟩ := (h2.bring 4 rfl).b4
  obtain ⟨_, s0, s1, s2, s3, s4, s5, g0, g1, g2, g3, g4, g5⟩ := h2.b6
  replace h2 := Lib.hid h2
  clear hB
  go_wp2_with (first | (go_at_call 40; refine (HP.out _).mono ?_; rintro e w2 ⟨rfl, q2⟩; replace h2 := Lib.hid (h2.out.below q2); clear q2 b0 b1 b2 b3 s0 s1 s2 s3 s4 s5 g0 g1 g2 g3 g4 g5; obtain ⟨_, b0, b1, b2, b3, _⟩ := (h2.out.bring 4 rfl).b4; obtain ⟨_, s0, s1, s2, s3, s4, s5, g0, g1, g2, g3, g4, g5⟩ := h2.out.b6) | (go_at_call 48; refine (HT.out _).mono ?_; rintro e w2 ⟨r, rfl, hr, q2⟩; replace h2 := Lib.hid (h2.out.below q2); clear q2 b0 b1 b2 b3 s0 s1 s2 s3 s4 s5 g0 g1 g2 g3 g4 g5; obtain ⟨_, b0, b1, b2, b3, _⟩ := (h2.out.bring 4 rfl).b4; obtain ⟨_, s0, s1, s2, s3, s4, s5, g0, g1, g2, g3, g4, g5⟩ := h2.out.b6) | fail)
  go_end0
  exact ⟨rfl, scP_close hl (h2.out.bring 4 rfl).tail⟩
set_option maxHeartbeats 4000000 in
set_option maxRecDepth 100000 in
theorem readCaps_high (p : Nat) (S : Sc) (x : ByteArray) (hx : x.size = 8) (h8 : S.ths.length ≤ 8) (h1 : capB (bt x 1) (bt x 2) (bt x 3) (bt x 4) = true) (h2 : 1 ≤ bt x 5) (h4 : ¬ bt x 5 ≤ 8) (w : World) (rs : List Res) (hS : Sep w (scP p S :: rs)) : Calls Tryd.prog 28 #[.pointer (some ⟨p, 0, none⟩), .string x] w fun e w' => e = .returned (.tuple #[]) ∧ Sep w' (scP p S :: rs) := by
  have hg := bt_get x
  have hw : ∀ i, IntKind.i64.wrap (bt x i) = bt x i := fun i => by have := bt_bd x i; exact i64_small _ (by omega) (by omega)
  have HP := Lib.hid (fun W => caps_any (bt x 1) (bt x 2) (bt x 3) (bt x 4) W)
  rw [h1] at HP
  replace hS := Lib.hid hS
  go_enter Tryd.func28, Tryd.ntmps28
  go_wp2
  have hS := Lib.hid (show (fun W : World => Sep W (scP p S :: rs)) _ from hS.out.drew)
  refine hx_begin (fun W : World => Sep W (scP p S :: rs)) 14 [(0, true), (1, true), (2, true), (3, true), (4, true), (5, true), (6, true), (7, true), (8, true), (9, true), (10, true), (11, true), (12, true), (13, false), (14, false)] [(13, 14), (12, 14), (0, 14), (1, 14), (2, 14), (3, 14), (4, 14), (5, 14), (6, 14), (7, 14), (8, 14), (9, 14), (10, 14), (11, 14)] (by kernel_rfl) (by kernel_rfl) (by kernel_rfl) (by kernel_rfl) rfl (by kernel_rfl) (by kernel_rfl) (fun _ _ _ _ _ h => h) hS.out ?_
  change HX _ _ _ _ _ _ _ (World.drew _)
  generalize World.drew _ = wd at *
  refine hx_take ?v76 rfl (by kernel_rfl) ?y76 ?z76
  case y76 => intro W hW; skip; replace hW := Lib.hid hW; go_simp; try rfl
  case z76 =>
  simp only [Act.put, List.setIfInBounds_toArray, List.set_cons_succ, List.set_cons_zero, List.getElem_toArray, List.getElem_cons_zero, List.getElem_cons_succ]
  refine hx_take ?v77 rfl (by kernel_rfl) ?y77 ?z77
  case y77 => intro W hW; skip; replace hW := Lib.hid hW; go_simp; try rfl
  case z77 =>
  simp only [Act.put, List.setIfInBounds_toArray, List.set_cons_succ, List.set_cons_zero, List.getElem_toArray, List.getElem_cons_zero, List.getElem_cons_succ]
  refine hx_take ?v78 rfl (by kernel_rfl) ?y78 ?z78
  case y78 => intro W hW; skip; replace hW := Lib.hid hW; go_simp; try rfl
  case z78 =>
  simp only [Act.put, List.setIfInBounds_toArray, List.set_cons_succ, List.set_cons_zero, List.getElem_toArray, List.getElem_cons_zero, List.getElem_cons_succ]
  refine hx_take ?v79 rfl (by kernel_rfl) ?y79 ?z79
  case y79 => intro W hW; skip; replace hW := Lib.hid hW; go_simp; try rfl
  case z79 =>
  simp only [Act.put, List.setIfInBounds_toArray, List.set_cons_succ, List.set_cons_zero, List.getElem_toArray, List.getElem_cons_zero, List.getElem_cons_succ]
  refine hx_take ?v80 rfl (by kernel_rfl) ?y80 ?z80
  case y80 => intro W hW; skip; replace hW := Lib.hid hW; go_simp; try rfl
  case z80 =>
  simp only [Act.put, List.setIfInBounds_toArray, List.set_cons_succ, List.set_cons_zero, List.getElem_toArray, List.getElem_cons_zero, List.getElem_cons_succ]
  refine hx_take ?v81 rfl (by kernel_rfl) ?y81 ?z81
  case y81 => intro W hW; skip; replace hW := Lib.hid hW; go_simp; try rfl
  case z81 =>
  simp only [Act.put, List.setIfInBounds_toArray, List.set_cons_succ, List.set_cons_zero, List.getElem_toArray, List.getElem_cons_zero, List.getElem_cons_succ]
  refine hx_take ?v82 rfl (by kernel_rfl) ?y82 ?z82
  case y82 => intro W hW; skip; replace hW := Lib.hid hW; go_simp; try rfl
  case z82 =>
  simp only [Act.put, List.setIfInBounds_toArray, List.set_cons_succ, List.set_cons_zero, List.getElem_toArray, List.getElem_cons_zero, List.getElem_cons_succ]
  refine hx_take ?v83 rfl (by kernel_rfl) ?y83 ?z83
  case y83 => intro W hW; skip; replace hW := Lib.hid hW; go_simp; try rfl
  case z83 =>
  simp only [Act.put, List.setIfInBounds_toArray, List.set_cons_succ, List.set_cons_zero, List.getElem_toArray, List.getElem_cons_zero, List.getElem_cons_succ]
  refine hx_take ?v84 rfl (by kernel_rfl) ?y84 ?z84
  case y84 => intro W hW; skip; replace hW := Lib.hid hW; go_simp; try rfl
  case z84 =>
  simp only [Act.put, List.setIfInBounds_toArray, List.set_cons_succ, List.set_cons_zero, List.getElem_toArray, List.getElem_cons_zero, List.getElem_cons_succ]
  refine hx_take ?v85 rfl (by kernel_rfl) ?y85 ?z85
  case y85 => intro W hW; skip; replace hW := Lib.hid hW; go_simp; try rfl
  case z85 =>
  simp only [Act.put, List.setIfInBounds_toArray, List.set_cons_succ, List.set_cons_zero, List.getElem_toArray, List.getElem_cons_zero, List.getElem_cons_succ]
  refine hx_take ?v86 rfl (by kernel_rfl) ?y86 ?z86
  case y86 => intro W hW; skip; replace hW := Lib.hid hW; go_simp; try rfl
  case z86 =>
  simp only [Act.put, List.setIfInBounds_toArray, List.set_cons_succ, List.set_cons_zero, List.getElem_toArray, List.getElem_cons_zero, List.getElem_cons_succ]
  refine hx_take ?v87 rfl (by kernel_rfl) ?y87 ?z87
  case y87 => intro W hW; skip; replace hW := Lib.hid hW; go_simp; try rfl
  case z87 =>
  simp only [Act.put, List.setIfInBounds_toArray, List.set_cons_succ, List.set_cons_zero, List.getElem_toArray, List.getElem_cons_zero, List.getElem_cons_succ]
  refine hx_take ?v88 rfl (by kernel_rfl) ?y88 ?z88
  case y88 => intro W hW; skip; replace hW := Lib.hid hW; go_simp; try rfl
  case z88 =>
  simp only [Act.put, List.setIfInBounds_toArray, List.set_cons_succ, List.set_cons_zero, List.getElem_toArray, List.getElem_cons_zero, List.getElem_cons_succ]
  refine hx_one (by decide) rfl (by kernel_rfl) (fun K hK => ?_)
  go_simp
  refine hK.out _ _ (hS.out.allocG (.cells #[.int .i64 0, .int .i64 0, .int .i64 0, .int .i64 0] 28)) ?_
  have hB := Lib.hid (hS.out.alloc #[.int .i64 0, .int .i64 0, .int .i64 0, .int .i64 0] 28)
  clear hK K
  try simp only [Act.put, List.setIfInBounds_toArray, List.set_cons_succ, List.set_cons_zero, List.getElem_toArray, List.getElem_cons_zero, List.getElem_cons_succ]
  refine hx_last rfl (by kernel_rfl) (fun K hK => ?_)
  obtain ⟨_, c0, c1, c2, c3, f0, f1, f2, f3⟩ := hB.out.b4
  go_simp
  refine hK.out _ _ ?_
  clear c0 c1 c2 c3 f0 f1 f2 f3
  clear hK K
  try simp only [Act.put, List.setIfInBounds_toArray, List.set_cons_succ, List.set_cons_zero, List.getElem_toArray, List.getElem_cons_zero, List.getElem_cons_succ]
  refine hx_done ?_
  clear hB
  have hB := Lib.hid (hS.out.alloc #[.int .i64 (bt x 1), .int .i64 (bt x 2), .int .i64 (bt x 3), .int .i64 (bt x 4)] 28)
  clear hS
  generalize hX : wd.heap.size = X at *
  generalize wd.alloc (.cells #[.int .i64 (bt x 1), .int .i64 (bt x 2), .int .i64 (bt x 3), .int .i64 (bt x 4)] 28) = w1 at *
  clear hX
  obtain ⟨ta, tc, pa, pc, vs, hl, h2⟩ := scP_open hB.out.to1
  obtain ⟨_, b0, b1, b2, b3, _⟩ := (h2.bring 4 rfl).b4
  obtain ⟨_, s0, s1, s2, s3, s4, s5, g0, g1, g2, g3, g4, g5⟩ := h2.b6
  replace h2 := Lib.hid h2
  clear hB
  go_wp2_with (first | (go_at_call 40; refine (HP.out _).mono ?_; rintro e w2 ⟨rfl, q2⟩; replace h2 := Lib.hid (h2.out.below q2); clear q2 b0 b1 b2 b3 s0 s1 s2 s3 s4 s5 g0 g1 g2 g3 g4 g5; obtain ⟨_, b0, b1, b2, b3, _⟩ := (h2.out.bring 4 rfl).b4; obtain ⟨_, s0, s1, s2, s3, s4, s5, g0, g1, g2, g3, g4, g5⟩ := h2.out.b6) | (go_at_call 48; refine (HT.out _).mono ?_; rintro e w2 ⟨r, rfl, hr, q2⟩; replace h2 := Lib.hid (h2.out.below q2); clear q2 b0 b1 b2 b3 s0 s1 s2 s3 s4 s5 g0 g1 g2 g3 g4 g5; obtain ⟨_, b0, b1, b2, b3, _⟩ := (h2.out.bring 4 rfl).b4; obtain ⟨_, s0, s1, s2, s3, s4, s5, g0, g1, g2, g3, g4, g5⟩ := h2.out.b6) | fail)
  go_end0
  exact ⟨rfl, scP_close hl (h2.out.bring 4 rfl).tail⟩
set_option maxHeartbeats 4000000 in
set_option maxRecDepth 100000 in
theorem readCaps_tail (p : Nat) (S : Sc) (x : ByteArray) (hx : x.size = 8) (h8 : S.ths.length ≤ 8) (h1 : capB (bt x 1) (bt x 2) (bt x 3) (bt x 4) = true) (h2 : 1 ≤ bt x 5) (h4 : bt x 5 ≤ 8) (h3 : ¬(bt x 6 = 0 ∧ bt x 7 = 0)) (w : World) (rs : List Res) (hS : Sep w (scP p S :: rs)) : Calls Tryd.prog 28 #[.pointer (some ⟨p, 0, none⟩), .string x] w fun e w' => e = .returned (.tuple #[]) ∧ Sep w' (scP p S :: rs) := by
  have hg := bt_get x
  have hw : ∀ i, IntKind.i64.wrap (bt x i) = bt x i := fun i => by have := bt_bd x i; exact i64_small _ (by omega) (by omega)
  have HP := Lib.hid (fun W => caps_any (bt x 1) (bt x 2) (bt x 3) (bt x 4) W)
  rw [h1] at HP
  have HT := Lib.hid (fun W => trim_any (x.extract 6 8) (by rw [ByteArray.size_extract]; omega) W)
  rw [zeros6 x hx, decide_eq_false h3] at HT
  replace hS := Lib.hid hS
  go_enter Tryd.func28, Tryd.ntmps28
  go_wp2
  have hS := Lib.hid (show (fun W : World => Sep W (scP p S :: rs)) _ from hS.out.drew)
  refine hx_begin (fun W : World => Sep W (scP p S :: rs)) 14 [(0, true), (1, true), (2, true), (3, true), (4, true), (5, true), (6, true), (7, true), (8, true), (9, true), (10, true), (11, true), (12, true), (13, false), (14, false)] [(13, 14), (12, 14), (0, 14), (1, 14), (2, 14), (3, 14), (4, 14), (5, 14), (6, 14), (7, 14), (8, 14), (9, 14), (10, 14), (11, 14)] (by kernel_rfl) (by kernel_rfl) (by kernel_rfl) (by kernel_rfl) rfl (by kernel_rfl) (by kernel_rfl) (fun _ _ _ _ _ h => h) hS.out ?_
  change HX _ _ _ _ _ _ _ (World.drew _)
  generalize World.drew _ = wd at *
  refine hx_take ?v89 rfl (by kernel_rfl) ?y89 ?z89
  case y89 => intro W hW; skip; replace hW := Lib.hid hW; go_simp; try rfl
  case z89 =>
  simp only [Act.put, List.setIfInBounds_toArray, List.set_cons_succ, List.set_cons_zero, List.getElem_toArray, List.getElem_cons_zero, List.getElem_cons_succ]
  refine hx_take ?v90 rfl (by kernel_rfl) ?y90 ?z90
  case y90 => intro W hW; skip; replace hW := Lib.hid hW; go_simp; try rfl
  case z90 =>
  simp only [Act.put, List.setIfInBounds_toArray, List.set_cons_succ, List.set_cons_zero, List.getElem_toArray, List.getElem_cons_zero, List.getElem_cons_succ]
  refine hx_take ?v91 rfl (by kernel_rfl) ?y91 ?z91
  case y91 => intro W hW; skip; replace hW := Lib.hid hW; go_simp; try rfl
  case z91 =>
  simp only [Act.put, List.setIfInBounds_toArray, List.set_cons_succ, List.set_cons_zero, List.getElem_toArray, List.getElem_cons_zero, List.getElem_cons_succ]
  refine hx_take ?v92 rfl (by kernel_rfl) ?y92 ?z92
  case y92 => intro W hW; skip; replace hW := Lib.hid hW; go_simp; try rfl
  case z92 =>
  simp only [Act.put, List.setIfInBounds_toArray, List.set_cons_succ, List.set_cons_zero, List.getElem_toArray, List.getElem_cons_zero, List.getElem_cons_succ]
  refine hx_take ?v93 rfl (by kernel_rfl) ?y93 ?z93
  case y93 => intro W hW; skip; replace hW := Lib.hid hW; go_simp; try rfl
  case z93 =>
  simp only [Act.put, List.setIfInBounds_toArray, List.set_cons_succ, List.set_cons_zero, List.getElem_toArray, List.getElem_cons_zero, List.getElem_cons_succ]
  refine hx_take ?v94 rfl (by kernel_rfl) ?y94 ?z94
  case y94 => intro W hW; skip; replace hW := Lib.hid hW; go_simp; try rfl
  case z94 =>
  simp only [Act.put, List.setIfInBounds_toArray, List.set_cons_succ, List.set_cons_zero, List.getElem_toArray, List.getElem_cons_zero, List.getElem_cons_succ]
  refine hx_take ?v95 rfl (by kernel_rfl) ?y95 ?z95
  case y95 => intro W hW; skip; replace hW := Lib.hid hW; go_simp; try rfl
  case z95 =>
  simp only [Act.put, List.setIfInBounds_toArray, List.set_cons_succ, List.set_cons_zero, List.getElem_toArray, List.getElem_cons_zero, List.getElem_cons_succ]
  refine hx_take ?v96 rfl (by kernel_rfl) ?y96 ?z96
  case y96 => intro W hW; skip; replace hW := Lib.hid hW; go_simp; try rfl
  case z96 =>
  simp only [Act.put, List.setIfInBounds_toArray, List.set_cons_succ, List.set_cons_zero, List.getElem_toArray, List.getElem_cons_zero, List.getElem_cons_succ]
  refine hx_take ?v97 rfl (by kernel_rfl) ?y97 ?z97
  case y97 => intro W hW; skip; replace hW := Lib.hid hW; go_simp; try rfl
  case z97 =>
  simp only [Act.put, List.setIfInBounds_toArray, List.set_cons_succ, List.set_cons_zero, List.getElem_toArray, List.getElem_cons_zero, List.getElem_cons_succ]
  refine hx_take ?v98 rfl (by kernel_rfl) ?y98 ?z98
  case y98 => intro W hW; skip; replace hW := Lib.hid hW; go_simp; try rfl
  case z98 =>
  simp only [Act.put, List.setIfInBounds_toArray, List.set_cons_succ, List.set_cons_zero, List.getElem_toArray, List.getElem_cons_zero, List.getElem_cons_succ]
  refine hx_take ?v99 rfl (by kernel_rfl) ?y99 ?z99
  case y99 => intro W hW; skip; replace hW := Lib.hid hW; go_simp; try rfl
  case z99 =>
  simp only [Act.put, List.setIfInBounds_toArray, List.set_cons_succ, List.set_cons_zero, List.getElem_toArray, List.getElem_cons_zero, List.getElem_cons_succ]
  refine hx_take ?v100 rfl (by kernel_rfl) ?y100 ?z100
  case y100 => intro W hW; skip; replace hW := Lib.hid hW; go_simp; try rfl
  case z100 =>
  simp only [Act.put, List.setIfInBounds_toArray, List.set_cons_succ, List.set_cons_zero, List.getElem_toArray, List.getElem_cons_zero, List.getElem_cons_succ]
  refine hx_take ?v101 rfl (by kernel_rfl) ?y101 ?z101
  case y101 => intro W hW; skip; replace hW := Lib.hid hW; go_simp; try rfl
  case z101 =>
  simp only [Act.put, List.setIfInBounds_toArray, List.set_cons_succ, List.set_cons_zero, List.getElem_toArray, List.getElem_cons_zero, List.getElem_cons_succ]
  refine hx_one (by decide) rfl (by kernel_rfl) (fun K hK => ?_)
  go_simp
  refine hK.out _ _ (hS.out.allocG (.cells #[.int .i64 0, .int .i64 0, .int .i64 0, .int .i64 0] 28)) ?_
  have hB := Lib.hid (hS.out.alloc #[.int .i64 0, .int .i64 0, .int .i64 0, .int .i64 0] 28)
  clear hK K
  try simp only [Act.put, List.setIfInBounds_toArray, List.set_cons_succ, List.set_cons_zero, List.getElem_toArray, List.getElem_cons_zero, List.getElem_cons_succ]
  refine hx_last rfl (by kernel_rfl) (fun K hK => ?_)
  obtain ⟨_, c0, c1, c2, c3, f0, f1, f2, f3⟩ := hB.out.b4
  go_simp
  refine hK.out _ _ ?_
  clear c0 c1 c2 c3 f0 f1 f2 f3
  clear hK K
  try simp only [Act.put, List.setIfInBounds_toArray, List.set_cons_succ, List.set_cons_zero, List.getElem_toArray, List.getElem_cons_zero, List.getElem_cons_succ]
  refine hx_done ?_
  clear hB
  have hB := Lib.hid (hS.out.alloc #[.int .i64 (bt x 1), .int .i64 (bt x 2), .int .i64 (bt x 3), .int .i64 (bt x 4)] 28)
  clear hS
  generalize hX : wd.heap.size = X at *
  generalize wd.alloc (.cells #[.int .i64 (bt x 1), .int .i64 (bt x 2), .int .i64 (bt x 3), .int .i64 (bt x 4)] 28) = w1 at *
  clear hX
  obtain ⟨ta, tc, pa, pc, vs, hl, h2⟩ := scP_open hB.out.to1
  obtain ⟨_, b0, b1, b2, b3, _⟩ := (h2.bring 4 rfl).b4
  obtain ⟨_, s0, s1, s2, s3, s4, s5, g0, g1, g2, g3, g4, g5⟩ := h2.b6
  replace h2 := Lib.hid h2
  clear hB
  go_wp2_with (first | (go_at_call 40; refine (HP.out _).mono ?_; rintro e w2 ⟨rfl, q2⟩; replace h2 := Lib.hid (h2.out.below q2); clear q2 b0 b1 b2 b3 s0 s1 s2 s3 s4 s5 g0 g1 g2 g3 g4 g5; obtain ⟨_, b0, b1, b2, b3, _⟩ := (h2.out.bring 4 rfl).b4; obtain ⟨_, s0, s1, s2, s3, s4, s5, g0, g1, g2, g3, g4, g5⟩ := h2.out.b6) | (go_at_call 48; refine (HT.out _).mono ?_; rintro e w2 ⟨r, rfl, hr, q2⟩; replace h2 := Lib.hid (h2.out.below q2); clear q2 b0 b1 b2 b3 s0 s1 s2 s3 s4 s5 g0 g1 g2 g3 g4 g5; obtain ⟨_, b0, b1, b2, b3, _⟩ := (h2.out.bring 4 rfl).b4; obtain ⟨_, s0, s1, s2, s3, s4, s5, g0, g1, g2, g3, g4, g5⟩ := h2.out.b6) | fail)
  go_end0
  exact ⟨rfl, scP_close hl (h2.out.bring 4 rfl).tail⟩
theorem readCaps_any (p : Nat) (S : Sc) (x : ByteArray) (hx : x.size = 8) (h8 : S.ths.length ≤ 8) (h0 : bt x 0 = 1) (w : World) (rs : List Res) (hS : Sep w (scP p S :: rs)) : Calls Tryd.prog 28 #[.pointer (some ⟨p, 0, none⟩), .string x] w fun e w' => e = .returned (.tuple #[]) ∧ Sep w' (scP p (stepS S (bt x)) :: rs) := by
  unfold stepS isCap
  rw [if_pos h0]
  cases h1 : capB (bt x 1) (bt x 2) (bt x 3) (bt x 4) with
  | false => exact readCaps_bad p S x hx h8 h1 w rs hS
  | true =>
    by_cases h2 : 1 ≤ bt x 5
    · by_cases h4 : bt x 5 ≤ 8
      · rw [decide_eq_true (⟨h2, h4⟩ : 1 ≤ bt x 5 ∧ bt x 5 ≤ 8)]
        by_cases h3 : bt x 6 = 0 ∧ bt x 7 = 0
        · rw [decide_eq_true h3]
          exact readCaps_all p S x hx h8 h1 h2 h4 h3 w rs hS
        · rw [decide_eq_false h3]
          exact readCaps_tail p S x hx h8 h1 h2 h4 h3 w rs hS
      · rw [decide_eq_false (show ¬(1 ≤ bt x 5 ∧ bt x 5 ≤ 8) by omega)]
        exact readCaps_high p S x hx h8 h1 h2 h4 w rs hS
    · rw [decide_eq_false (show ¬(1 ≤ bt x 5 ∧ bt x 5 ≤ 8) by omega)]
      exact readCaps_low p S x hx h8 h1 h2 w rs hS
end Go.Proofs.YtdpolejbceoldaaDoor
