/-
  Reading an op's entry into a script: readOp. No condition beside an entry of eight bytes and a script that can be read.
-/
import Derived.Test.YtdpolejbceoldaaDoorScR
namespace Go.Proofs.YtdpolejbceoldaaDoor
set_option linter.unusedSimpArgs false
set_option linter.unusedVariables false
set_option linter.unnecessarySimpa false
open Go.RowKit
variable {w : World} {rs : List Res}
theorem vec_some {e : TypeId} {size n : Nat} {a : Option Addr} {c : Nat} {xs : List Value} (h : Sep w (vec e size (.slice a n c) n xs :: rs)) (hn : 0 < n) : ∃ g, a = some ⟨g, 0, none⟩ := by
  rcases h.gvec.2 with ⟨_, h1⟩ | ⟨g, cap, cur, h1, _⟩
  · omega
  · injection h1 with h1 _ _
    exact ⟨g, h1⟩
theorem zip_at (vs : List Value) (L : List (List Oq)) (hl : vs.length = L.length) (k : Nat) (hk : k < L.length) : (List.zipWith rwO vs L).getD k nilRw = rwO (vs.getD k undef) (L.getD k []) := by
  rw [List.getD_eq_getElem?_getD, List.getD_eq_getElem?_getD, List.getD_eq_getElem?_getD, List.getElem?_zipWith, List.getElem?_eq_getElem hk, List.getElem?_eq_getElem (show k < vs.length by omega)]
  rfl
theorem zip_set : ∀ (vs : List Value) (L : List (List Oq)) (k : Nat) (v : Value) (l : List Oq), (List.zipWith rwO vs L).set k (rwO v l) = List.zipWith rwO (vs.set k v) (L.set k l)
  | [], _, _, _, _ => by simp
  | _ :: _, [], _, _, _ => by cases ‹Nat› <;> simp
  | a :: vs, b :: L, 0, _, _ => rfl
  | a :: vs, b :: L, k + 1, v, l => by
    simp only [List.zipWith_cons_cons, List.set_cons_succ]
    rw [zip_set vs L k v l]
/-- The thread k in front. -/
theorem th_open {vs : List Value} {L : List (List Oq)} {k : Nat} (hl : vs.length = L.length) (hk : k < L.length) (h : Sep w (rwR vs L :: rs)) : ∃ a c, vs.getD k undef = .slice a (L.getD k []).length c ∧
    Sep w (oVec (.slice a (L.getD k []).length c) (L.getD k []).length (L.getD k []) :: rowsG 36 6 ((List.zipWith rwO vs L).set k nilRw) :: rs) := by
  have h1 := h.rowsG_take (i := k) (by rw [List.length_zipWith]; omega)
  rw [zip_at vs L hl k hk] at h1
  obtain ⟨a, c, e⟩ := vec_sl h1
  simp only [rwO] at e h1
  rw [e] at h1
  exact ⟨a, c, e, h1⟩
theorem th_put {vs : List Value} {L : List (List Oq)} {k : Nat} {v : Value} {l : List Oq} {n : Nat} (hn : n = l.length) (hl : vs.length = L.length) (hk : k < L.length) (h : Sep w (oVec v n l :: rowsG 36 6 ((List.zipWith rwO vs L).set k nilRw) :: rs)) : Sep w (rwR (vs.set k v) (L.set k l) :: rs) := by
  subst hn
  have h1 := Sep.rowsG_put (rwO v l) (i := k) (by rw [List.length_set, List.length_zipWith]; omega) h
  rw [List.set_set, zip_set] at h1
  exact h1
set_option maxHeartbeats 4000000 in
set_option maxRecDepth 100000 in
theorem readOp_no (p : Nat) (S : Sc) (x : ByteArray) (hx : x.size = 8) (h8 : S.ths.length ≤ 8) (h1 : isOp (bt x) = false) (w : World) (rs : List Res) (hS : Sep w (scP p S :: rs)) : Calls Tryd.prog 29 #[.pointer (some ⟨p, 0, none⟩), .string x] w fun e w' => e = .returned (.tuple #[]) ∧ Sep w' (scP p S :: rs) := by
  have HE := fun W => entry_any x hx W
  simp only [entV, h1, oC, opOf, if_true, Bool.false_eq_true, if_false] at HE
  replace HE := Lib.hid HE
  replace hS := Lib.hid hS
  go_enter Tryd.func29, Tryd.ntmps29
  go_wp2_with fail
  refine (HE.out _).mono ?_
  rintro e w1 ⟨rfl, q1⟩
  replace hS := Lib.hid (hS.out.below q1)
  clear q1
  go_wp2_with fail
  have h2 := Lib.hid (hS.out.allocG (.cells #[.int .i64 0, .int .i64 0, .int .i64 0, .int .i64 0, .int .i64 0, .int .i64 0] 36))
  ((try simp only [Exit.inBlock, Exit.then]); refine bodyPost_ret (results_none rfl _ _ _) rfl ?_)
  exact ⟨rfl, h2.out⟩
set_option maxHeartbeats 4000000 in
set_option maxRecDepth 100000 in
theorem readOp_full (p : Nat) (S : Sc) (x : ByteArray) (hx : x.size = 8) (h8 : S.ths.length ≤ 8) (k : Nat) (hk : bt x 1 = k) (hk8 : k < 8) (h1 : isOp (bt x) = true) (hlt : k < S.ths.length) (hfl : (S.ths.getD k []).length = 32) (w : World) (rs : List Res) (hS : Sep w (scP p S :: rs)) : Calls Tryd.prog 29 #[.pointer (some ⟨p, 0, none⟩), .string x] w fun e w' => e = .returned (.tuple #[]) ∧ Sep w' (scP p S :: rs) := by
  have HE := fun W => entry_any x hx W
  simp only [entV, h1, oC, opOf, if_true, Bool.false_eq_true, if_false, hk] at HE
  replace HE := Lib.hid HE
  replace hS := Lib.hid hS
  go_enter Tryd.func29, Tryd.ntmps29
  go_wp2_with fail
  refine (HE.out _).mono ?_
  rintro e w1 ⟨rfl, q1⟩
  replace hS := Lib.hid (hS.out.below q1)
  clear q1
  clear h1 hk
  have hB := Lib.hid (hS.out.alloc #[.int .i64 (bt x 2), .int .i64 (bt x 3 - 1), .int .i64 (bt x 4 - 1), .int .i64 (bt x 5), .int .i64 (bt x 6), .int .i64 (bt x 7)] 36)
  clear hS
  generalize hX : w1.heap.size = X at *
  obtain ⟨ta, tc, pa, pc, vs, hl, h2⟩ := scP_open hB.out.to1
  obtain ⟨_, s0, s1, _⟩ := h2.b6
  obtain ⟨_, x0, x1, x2, x3, x4, x5, _⟩ := (h2.bring 4 rfl).b6
  obtain ⟨g, rfl⟩ := vec_some h2.to1 (by omega)
  obtain ⟨ha, hc, hv, h3⟩ := th_open hl hlt h2.to2
  have hvk : vs[k]? = some (.slice ha (S.ths.getD k []).length hc) := by rw [← hv, List.getD_eq_getElem?_getD, List.getElem?_eq_getElem (show k < vs.length by omega)]; rfl
  have ck := (h2.to1.vec_cell hvk).1
  have i1 : (k : Int) < (S.ths.length : Int) := by omega
  have i2 : (0 : Int) ≤ (k : Int) := by omega
  rw [hfl] at ck
  replace hl := Lib.hid hl
  have hE := Lib.hid (scP_close hl.out (h2.bring 4 rfl).tail)
  clear h2 h3 hv hvk
  clear hX
  go_wp2_with fail
  ((try simp only [Exit.inBlock, Exit.then]); refine bodyPost_ret (results_none rfl _ _ _) rfl ?_)
  exact ⟨rfl, hE.out⟩
set_option maxHeartbeats 4000000 in
set_option maxRecDepth 100000 in
theorem readOp_new (p : Nat) (S : Sc) (x : ByteArray) (hx : x.size = 8) (h8 : S.ths.length ≤ 8) (k : Nat) (hk : bt x 1 = k) (hk8 : k < 8) (h1 : isOp (bt x) = true) (h32 : (S.ths.getD k []).length ≤ 32) (hlt : ¬ k < S.ths.length) (w : World) (rs : List Res) (hS : Sep w (scP p S :: rs)) : Calls Tryd.prog 29 #[.pointer (some ⟨p, 0, none⟩), .string x] w fun e w' => e = .returned (.tuple #[]) ∧ Sep w' (scP p { S with ths := addL (growL S.ths (k + 1)) k (opOf (bt x)) } :: rs) := by
  have HE := fun W => entry_any x hx W
  simp only [entV, h1, oC, opOf, if_true, Bool.false_eq_true, if_false, hk] at HE
  replace HE := Lib.hid HE
  replace hS := Lib.hid hS
  go_enter Tryd.func29, Tryd.ntmps29
  go_wp2_with fail
  refine (HE.out _).mono ?_
  rintro e w1 ⟨rfl, q1⟩
  replace hS := Lib.hid (hS.out.below q1)
  clear q1
  clear h1 hk
  have hB := Lib.hid (hS.out.alloc #[.int .i64 (bt x 2), .int .i64 (bt x 3 - 1), .int .i64 (bt x 4 - 1), .int .i64 (bt x 5), .int .i64 (bt x 6), .int .i64 (bt x 7)] 36)
  clear hS
  generalize hX : w1.heap.size = X at *
  obtain ⟨ta, tc, pa, pc, vs, hl, h2⟩ := scP_open hB.out.to1
  obtain ⟨_, s0, s1, _⟩ := h2.b6
  obtain ⟨_, x0, x1, x2, x3, x4, x5, _⟩ := (h2.bring 4 rfl).b6
  have i1 : ¬ (k : Int) < (S.ths.length : Int) := by omega
  have hE := Lib.hid (show Sep _ (scP p S :: blk X 36 #[.int .i64 (bt x 2), .int .i64 (bt x 3 - 1), .int .i64 (bt x 4 - 1), .int .i64 (bt x 5), .int .i64 (bt x 6), .int .i64 (bt x 7)] :: rs) from scP_close hl h2)
  clear h2 hl
  obtain ⟨i0, hi0, hz0, hz1, hz2⟩ := info_parts info_op
  have h1c : Hid (∀ u ∈ ([.int .i64 (bt x 2), .int .i64 (bt x 3 - 1), .int .i64 (bt x 4 - 1), .int .i64 (bt x 5), .int .i64 (bt x 6), .int .i64 (bt x 7)] : List Value), u.oneCell' = true) := Lib.hid (by simp [Value.oneCell'])
  have HG := fun W h => grow_any p S (k + 1) W (blk X 36 #[.int .i64 (bt x 2), .int .i64 (bt x 3 - 1), .int .i64 (bt x 4 - 1), .int .i64 (bt x 5), .int .i64 (bt x 6), .int .i64 (bt x 7)] :: rs) (by omega) h8 h
  rw [show (((k + 1 : Nat)) : Int) = (k : Int) + 1 by omega] at HG
  replace HG := Lib.hid HG
  go_wp2_with (go_at_call 27; refine (HG.out _ hE.out).mono ?_; rintro e w2 ⟨rfl, q2⟩; replace q2 := Lib.hid q2; clear hE HG s0 s1 x0 x1 x2 x3 x4 x5)
  generalize hS' : ({ S with ths := growL S.ths (k + 1) } : Sc) = S' at q2
  have hkl : k < S'.ths.length := by rw [← hS']; show k < (growL _ _).length; rw [growL_len]; omega
  have hml : (S'.ths.getD k []).length ≤ 32 := by rw [← hS']; show ((growL _ _).getD k []).length ≤ 32; rw [growL_getD]; exact h32
  have hconc : Hid (({ S with ths := addL (growL S.ths (k + 1)) k (opOf (bt x)) } : Sc) = { S' with ths := S'.ths.set k (S'.ths.getD k [] ++ [⟨bt x 2, bt x 3 - 1, bt x 4 - 1, bt x 5, bt x 6, bt x 7⟩]) }) := Lib.hid (by subst hS'; rfl)
  clear hS'
  obtain ⟨ta, tc, pa, pc, vs, hl, h2⟩ := scP_open q2.out
  obtain ⟨g, rfl⟩ := vec_some h2.to1 (by omega)
  obtain ⟨ha, hc, hv, h3⟩ := th_open hl hkl h2.to2
  obtain ⟨n, hn⟩ : ∃ n, S'.ths.length = n := ⟨_, rfl⟩
  obtain ⟨m, hm⟩ : ∃ m, (S'.ths.getD k []).length = m := ⟨_, rfl⟩
  rw [hm] at hv h3 hml
  have hvk := Lib.hid (show vs[k]? = some (.slice ha m hc) by rw [← hv, List.getD_eq_getElem?_getD, List.getElem?_eq_getElem (show k < vs.length by omega)]; rfl)
  rw [hn] at hl hkl h3
  generalize hpv : Value.slice pa S'.pks.length pc = pv at h3
  replace hl := Lib.hid hl
  replace hm := Lib.hid hm
  replace hn := Lib.hid hn
  have hkn := hkl
  have i3 : (k : Int) < (n : Int) := by omega
  have i4 : (0 : Int) ≤ (k : Int) := by omega
  have hB := Lib.hid (show Sep _ (sBlk p (.slice (some ⟨g, 0, none⟩) n tc) pv S' :: tVec (.slice (some ⟨g, 0, none⟩) n tc) n vs :: blk X 36 #[.int .i64 (bt x 2), .int .i64 (bt x 3 - 1), .int .i64 (bt x 4 - 1), .int .i64 (bt x 5), .int .i64 (bt x 6), .int .i64 (bt x 7)] :: oVec (.slice ha m hc) m (S'.ths.getD k []) :: rowsG 36 6 ((List.zipWith rwO vs S'.ths).set k nilRw) :: pVec pv S'.pks.length S'.pks :: rs) from (((h3.bring 5 rfl).bring 4 rfl).bring 4 rfl).drew)
  clear h2 h3 hv q2 hpv
  have hS := Lib.hid (show (fun W : World => ∃ u q cs, Sep W (sBlk p (.slice (some ⟨g, 0, none⟩) n tc) pv S' :: tVec (.slice (some ⟨g, 0, none⟩) n tc) n vs :: blk X 36 #[.int .i64 (bt x 2), .int .i64 (bt x 3 - 1), .int .i64 (bt x 4 - 1), .int .i64 (bt x 5), .int .i64 (bt x 6), .int .i64 (bt x 7)] :: vec 36 6 u q cs :: rowsG 36 6 ((List.zipWith rwO vs S'.ths).set k nilRw) :: pVec pv S'.pks.length S'.pks :: rs)) _ from ⟨_, _, _, hB.out⟩)
  refine hx_begin (fun W : World => ∃ u q cs, Sep W (sBlk p (.slice (some ⟨g, 0, none⟩) n tc) pv S' :: tVec (.slice (some ⟨g, 0, none⟩) n tc) n vs :: blk X 36 #[.int .i64 (bt x 2), .int .i64 (bt x 3 - 1), .int .i64 (bt x 4 - 1), .int .i64 (bt x 5), .int .i64 (bt x 6), .int .i64 (bt x 7)] :: vec 36 6 u q cs :: rowsG 36 6 ((List.zipWith rwO vs S'.ths).set k nilRw) :: pVec pv S'.pks.length S'.pks :: rs)) 16 [(0, true), (1, true), (2, true), (3, true), (4, true), (5, true), (6, true), (7, true), (8, true), (9, true), (10, true), (11, true), (12, true), (13, false), (14, false), (15, true), (16, false)] [(15, 16), (14, 16), (0, 16), (1, 16), (2, 16), (3, 16), (4, 16), (5, 16), (6, 16), (7, 16), (8, 16), (9, 16), (10, 16), (11, 16), (12, 16), (13, 16)] (by kernel_rfl) (by kernel_rfl) (by kernel_rfl) (by kernel_rfl) rfl (by kernel_rfl) (by kernel_rfl) (fun _ _ _ _ _ h => h) hS.out ?_
  change HX _ _ _ _ _ _ _ (World.drew _)
  generalize World.drew _ = wd at *
  refine hx_take ?v1 rfl (by kernel_rfl) ?y1 ?z1
  case y1 => intro W hW; have := i3; have := i4; replace hW := Lib.hid hW; go_simp; try rfl
  case z1 =>
  simp only [Act.put, List.setIfInBounds_toArray, List.set_cons_succ, List.set_cons_zero, List.getElem_toArray, List.getElem_cons_zero, List.getElem_cons_succ]
  refine hx_take ?v2 rfl (by kernel_rfl) ?y2 ?z2
  case y2 => intro W hW; have := i3; have := i4; replace hW := Lib.hid hW; go_simp; try rfl
  case z2 =>
  simp only [Act.put, List.setIfInBounds_toArray, List.set_cons_succ, List.set_cons_zero, List.getElem_toArray, List.getElem_cons_zero, List.getElem_cons_succ]
  refine hx_take ?v3 rfl (by kernel_rfl) ?y3 ?z3
  case y3 => intro W hW; have := i3; have := i4; replace hW := Lib.hid hW; go_simp; try rfl
  case z3 =>
  simp only [Act.put, List.setIfInBounds_toArray, List.set_cons_succ, List.set_cons_zero, List.getElem_toArray, List.getElem_cons_zero, List.getElem_cons_succ]
  refine hx_take ?v4 rfl (by kernel_rfl) ?y4 ?z4
  case y4 => intro W hW; obtain ⟨_, _, _, hW⟩ := hW; obtain ⟨_, s0, s1, _⟩ := (show Sep _ _ from hW).b6; obtain ⟨_, x0, x1, x2, x3, x4, x5, _⟩ := (show Sep _ _ from hW).to2.b6; obtain ⟨ck, _⟩ := (show Sep _ _ from hW).to1.vec_cell hvk.out; replace hW := Lib.hid hW; go_simp; try rfl
  case z4 =>
  simp only [Act.put, List.setIfInBounds_toArray, List.set_cons_succ, List.set_cons_zero, List.getElem_toArray, List.getElem_cons_zero, List.getElem_cons_succ]
  refine hx_take ?v5 rfl (by kernel_rfl) ?y5 ?z5
  case y5 => intro W hW; have := i3; have := i4; replace hW := Lib.hid hW; go_simp; try rfl
  case z5 =>
  simp only [Act.put, List.setIfInBounds_toArray, List.set_cons_succ, List.set_cons_zero, List.getElem_toArray, List.getElem_cons_zero, List.getElem_cons_succ]
  refine hx_take ?v6 rfl (by kernel_rfl) ?y6 ?z6
  case y6 => intro W hW; have := i3; have := i4; replace hW := Lib.hid hW; go_simp; try rfl
  case z6 =>
  simp only [Act.put, List.setIfInBounds_toArray, List.set_cons_succ, List.set_cons_zero, List.getElem_toArray, List.getElem_cons_zero, List.getElem_cons_succ]
  refine hx_take ?v7 rfl (by kernel_rfl) ?y7 ?z7
  case y7 => intro W hW; have := i3; have := i4; replace hW := Lib.hid hW; go_simp; try rfl
  case z7 =>
  simp only [Act.put, List.setIfInBounds_toArray, List.set_cons_succ, List.set_cons_zero, List.getElem_toArray, List.getElem_cons_zero, List.getElem_cons_succ]
  refine hx_take ?v8 rfl (by kernel_rfl) ?y8 ?z8
  case y8 => intro W hW; have := i3; have := i4; replace hW := Lib.hid hW; go_simp; try rfl
  case z8 =>
  simp only [Act.put, List.setIfInBounds_toArray, List.set_cons_succ, List.set_cons_zero, List.getElem_toArray, List.getElem_cons_zero, List.getElem_cons_succ]
  refine hx_take ?v9 rfl (by kernel_rfl) ?y9 ?z9
  case y9 => intro W hW; obtain ⟨_, _, _, hW⟩ := hW; obtain ⟨_, s0, s1, _⟩ := (show Sep _ _ from hW).b6; obtain ⟨_, x0, x1, x2, x3, x4, x5, _⟩ := (show Sep _ _ from hW).to2.b6; obtain ⟨ck, _⟩ := (show Sep _ _ from hW).to1.vec_cell hvk.out; replace hW := Lib.hid hW; go_simp; try rfl
  case z9 =>
  simp only [Act.put, List.setIfInBounds_toArray, List.set_cons_succ, List.set_cons_zero, List.getElem_toArray, List.getElem_cons_zero, List.getElem_cons_succ]
  refine hx_take ?v10 rfl (by kernel_rfl) ?y10 ?z10
  case y10 => intro W hW; have := i3; have := i4; replace hW := Lib.hid hW; go_simp; try rfl
  case z10 =>
  simp only [Act.put, List.setIfInBounds_toArray, List.set_cons_succ, List.set_cons_zero, List.getElem_toArray, List.getElem_cons_zero, List.getElem_cons_succ]
  refine hx_take ?v11 rfl (by kernel_rfl) ?y11 ?z11
  case y11 => intro W hW; have := i3; have := i4; replace hW := Lib.hid hW; go_simp; try rfl
  case z11 =>
  simp only [Act.put, List.setIfInBounds_toArray, List.set_cons_succ, List.set_cons_zero, List.getElem_toArray, List.getElem_cons_zero, List.getElem_cons_succ]
  refine hx_take ?v12 rfl (by kernel_rfl) ?y12 ?z12
  case y12 => intro W hW; obtain ⟨_, _, _, hW⟩ := hW; obtain ⟨_, s0, s1, _⟩ := (show Sep _ _ from hW).b6; obtain ⟨_, x0, x1, x2, x3, x4, x5, _⟩ := (show Sep _ _ from hW).to2.b6; obtain ⟨ck, _⟩ := (show Sep _ _ from hW).to1.vec_cell hvk.out; replace hW := Lib.hid hW; go_simp; try rfl
  case z12 =>
  simp only [Act.put, List.setIfInBounds_toArray, List.set_cons_succ, List.set_cons_zero, List.getElem_toArray, List.getElem_cons_zero, List.getElem_cons_succ]
  refine hx_take ?v13 rfl (by kernel_rfl) ?y13 ?z13
  case y13 => intro W hW; obtain ⟨_, _, _, hW⟩ := hW; obtain ⟨_, s0, s1, _⟩ := (show Sep _ _ from hW).b6; obtain ⟨_, x0, x1, x2, x3, x4, x5, _⟩ := (show Sep _ _ from hW).to2.b6; obtain ⟨ck, _⟩ := (show Sep _ _ from hW).to1.vec_cell hvk.out; replace hW := Lib.hid hW; go_simp; try rfl
  case z13 =>
  simp only [Act.put, List.setIfInBounds_toArray, List.set_cons_succ, List.set_cons_zero, List.getElem_toArray, List.getElem_cons_zero, List.getElem_cons_succ]
  refine hx_one (by decide) rfl (by kernel_rfl) (fun K hK => ?_)
  go_simp
  replace hB := Lib.hid (hB.out.allocG (.cells #[.int .i64 (bt x 2), .int .i64 (bt x 3 - 1), .int .i64 (bt x 4 - 1), .int .i64 (bt x 5), .int .i64 (bt x 6), .int .i64 (bt x 7)] 36))
  have hsrc := Lib.hid (srcA_cells wd #[.int .i64 (bt x 2), .int .i64 (bt x 3 - 1), .int .i64 (bt x 4 - 1), .int .i64 (bt x 5), .int .i64 (bt x 6), .int .i64 (bt x 7)] 36 1 6 rfl)
  refine hK.out _ _ ⟨_, _, _, hB.out⟩ ?_
  clear hK K
  try simp only [Act.put, List.setIfInBounds_toArray, List.set_cons_succ, List.set_cons_zero, List.getElem_toArray, List.getElem_cons_zero, List.getElem_cons_succ]
  refine hx_one (by decide) rfl (by kernel_rfl) (fun K hK => ?_)
  refine wp_append_sep hB.out.to3 (.tmp 50) (.tmp 52) 44 (by rfl) i0 _ 48 Tryd.underlying44 hi0 hz0 hz1 hz2 rfl (by decide) (by rfl) 1 [.int .i64 (bt x 2), .int .i64 (bt x 3 - 1), .int .i64 (bt x 4 - 1), .int .i64 (bt x 5), .int .i64 (bt x 6), .int .i64 (bt x 7)] (by exact hsrc.out) h1c.out (by simp only [maxLen]; omega) (by omega) ?_
  intro na nc w2 q
  replace hB := Lib.hid (show Sep _ _ from q.to3.to3.to3)
  clear q hsrc
  refine hK.out _ _ ⟨_, _, _, hB.out⟩ ?_
  clear hK K
  try simp only [Act.put, List.setIfInBounds_toArray, List.set_cons_succ, List.set_cons_zero, List.getElem_toArray, List.getElem_cons_zero, List.getElem_cons_succ]
  refine hx_take ?v14 rfl (by kernel_rfl) ?y14 ?z14
  case y14 => intro W hW; have := i3; have := i4; replace hW := Lib.hid hW; go_simp; try rfl
  case z14 =>
  simp only [Act.put, List.setIfInBounds_toArray, List.set_cons_succ, List.set_cons_zero, List.getElem_toArray, List.getElem_cons_zero, List.getElem_cons_succ]
  refine hx_last rfl (by kernel_rfl) (fun K hK => ?_)
  have hck := hB.out.to1.vec_cell hvk.out
  obtain ⟨ck, gk, _⟩ := hck
  go_simp
  refine hK.out _ _ ?_
  clear ck gk
  clear hK K
  try simp only [Act.put, List.setIfInBounds_toArray, List.set_cons_succ, List.set_cons_zero, List.getElem_toArray, List.getElem_cons_zero, List.getElem_cons_succ]
  refine hx_done ?_
  go_end0
  refine ⟨rfl, ?_⟩
  rw [hconc.out]
  have h7 := hB.out.to1.vec_set (k := k) (by rw [hl.out]; exact hkn) (.slice na (m + 1) nc)
  have e6 : (S'.ths.getD k [] ++ [opOf (bt x)]).flatMap oC = (S'.ths.getD k []).flatMap oC ++ [.int .i64 (bt x 2), .int .i64 (bt x 3 - 1), .int .i64 (bt x 4 - 1), .int .i64 (bt x 5), .int .i64 (bt x 6), .int .i64 (bt x 7)] := by rw [List.flatMap_append, List.flatMap_cons, List.flatMap_nil, List.append_nil]; rfl
  have h8_ := ((h7.bring 2 rfl).tail.bring 3 rfl).bring 3 rfl
  rw [← e6] at h8_
  have h9 := th_put (l := S'.ths.getD k [] ++ [opOf (bt x)]) (by rw [List.length_append, hm.out]; rfl) (by rw [hl.out, hn.out]) (by rw [hn.out]; exact hkn) h8_
  refine scP_close (S := { S' with ths := S'.ths.set k (S'.ths.getD k [] ++ [opOf (bt x)]) }) (tv := .slice (some ⟨g, 0, none⟩) n tc) (pv := pv) (vs := vs.set k (.slice na (m + 1) nc)) (by rw [List.length_set, hl.out, List.length_set, hn.out]) ?_
  simp only [tVec, List.length_set, hn.out]
  exact h9.to2.to2.to1
set_option maxHeartbeats 4000000 in
set_option maxRecDepth 100000 in
theorem readOp_room (p : Nat) (S : Sc) (x : ByteArray) (hx : x.size = 8) (h8 : S.ths.length ≤ 8) (k : Nat) (hk : bt x 1 = k) (hk8 : k < 8) (h1 : isOp (bt x) = true) (h32 : (S.ths.getD k []).length ≤ 32) (hlt : k < S.ths.length) (hfl : (S.ths.getD k []).length ≠ 32) (w : World) (rs : List Res) (hS : Sep w (scP p S :: rs)) : Calls Tryd.prog 29 #[.pointer (some ⟨p, 0, none⟩), .string x] w fun e w' => e = .returned (.tuple #[]) ∧ Sep w' (scP p { S with ths := addL (growL S.ths (k + 1)) k (opOf (bt x)) } :: rs) := by
  have HE := fun W => entry_any x hx W
  simp only [entV, h1, oC, opOf, if_true, Bool.false_eq_true, if_false, hk] at HE
  replace HE := Lib.hid HE
  replace hS := Lib.hid hS
  go_enter Tryd.func29, Tryd.ntmps29
  go_wp2_with fail
  refine (HE.out _).mono ?_
  rintro e w1 ⟨rfl, q1⟩
  replace hS := Lib.hid (hS.out.below q1)
  clear q1
  clear h1 hk
  have hB := Lib.hid (hS.out.alloc #[.int .i64 (bt x 2), .int .i64 (bt x 3 - 1), .int .i64 (bt x 4 - 1), .int .i64 (bt x 5), .int .i64 (bt x 6), .int .i64 (bt x 7)] 36)
  clear hS
  generalize hX : w1.heap.size = X at *
  obtain ⟨ta, tc, pa, pc, vs, hl, h2⟩ := scP_open hB.out.to1
  obtain ⟨_, s0, s1, _⟩ := h2.b6
  obtain ⟨_, x0, x1, x2, x3, x4, x5, _⟩ := (h2.bring 4 rfl).b6
  obtain ⟨g, rfl⟩ := vec_some h2.to1 (by omega)
  obtain ⟨ha, hc, hv, h3⟩ := th_open hl hlt h2.to2
  have hvk : vs[k]? = some (.slice ha (S.ths.getD k []).length hc) := by rw [← hv, List.getD_eq_getElem?_getD, List.getElem?_eq_getElem (show k < vs.length by omega)]; rfl
  have ck := (h2.to1.vec_cell hvk).1
  have i1 : (k : Int) < (S.ths.length : Int) := by omega
  have i2 : (0 : Int) ≤ (k : Int) := by omega
  obtain ⟨m0, hm0⟩ : ∃ m0, (S.ths.getD k []).length = m0 := ⟨_, rfl⟩
  rw [hm0] at ck hfl h32
  have i5 : ((m0 : Int) == 32) = false := by rw [beq_eq_false_iff_ne]; omega
  replace hm0 := Lib.hid hm0
  clear h3 hv hvk
  have hE := Lib.hid (show Sep _ (scP p S :: blk X 36 #[.int .i64 (bt x 2), .int .i64 (bt x 3 - 1), .int .i64 (bt x 4 - 1), .int .i64 (bt x 5), .int .i64 (bt x 6), .int .i64 (bt x 7)] :: rs) from scP_close hl h2)
  clear h2 hl
  obtain ⟨i0, hi0, hz0, hz1, hz2⟩ := info_parts info_op
  have h1c : Hid (∀ u ∈ ([.int .i64 (bt x 2), .int .i64 (bt x 3 - 1), .int .i64 (bt x 4 - 1), .int .i64 (bt x 5), .int .i64 (bt x 6), .int .i64 (bt x 7)] : List Value), u.oneCell' = true) := Lib.hid (by simp [Value.oneCell'])
  have HG := fun W h => grow_any p S (k + 1) W (blk X 36 #[.int .i64 (bt x 2), .int .i64 (bt x 3 - 1), .int .i64 (bt x 4 - 1), .int .i64 (bt x 5), .int .i64 (bt x 6), .int .i64 (bt x 7)] :: rs) (by omega) h8 h
  rw [show (((k + 1 : Nat)) : Int) = (k : Int) + 1 by omega] at HG
  replace HG := Lib.hid HG
  go_wp2_with (go_at_call 27; refine (HG.out _ hE.out).mono ?_; rintro e w2 ⟨rfl, q2⟩; replace q2 := Lib.hid q2; clear hE HG s0 s1 x0 x1 x2 x3 x4 x5 ck i5)
  generalize hS' : ({ S with ths := growL S.ths (k + 1) } : Sc) = S' at q2
  have hkl : k < S'.ths.length := by rw [← hS']; show k < (growL _ _).length; rw [growL_len]; omega
  have hml : (S'.ths.getD k []).length ≤ 32 := by rw [← hS']; show ((growL _ _).getD k []).length ≤ 32; rw [growL_getD, hm0.out]; exact h32
  have hconc : Hid (({ S with ths := addL (growL S.ths (k + 1)) k (opOf (bt x)) } : Sc) = { S' with ths := S'.ths.set k (S'.ths.getD k [] ++ [⟨bt x 2, bt x 3 - 1, bt x 4 - 1, bt x 5, bt x 6, bt x 7⟩]) }) := Lib.hid (by subst hS'; rfl)
  clear hS'
  obtain ⟨ta, tc, pa, pc, vs, hl, h2⟩ := scP_open q2.out
  obtain ⟨g, rfl⟩ := vec_some h2.to1 (by omega)
  obtain ⟨ha, hc, hv, h3⟩ := th_open hl hkl h2.to2
  obtain ⟨n, hn⟩ : ∃ n, S'.ths.length = n := ⟨_, rfl⟩
  obtain ⟨m, hm⟩ : ∃ m, (S'.ths.getD k []).length = m := ⟨_, rfl⟩
  rw [hm] at hv h3 hml
  have hvk := Lib.hid (show vs[k]? = some (.slice ha m hc) by rw [← hv, List.getD_eq_getElem?_getD, List.getElem?_eq_getElem (show k < vs.length by omega)]; rfl)
  rw [hn] at hl hkl h3
  generalize hpv : Value.slice pa S'.pks.length pc = pv at h3
  replace hl := Lib.hid hl
  replace hm := Lib.hid hm
  replace hn := Lib.hid hn
  have hkn := hkl
  have i3 : (k : Int) < (n : Int) := by omega
  have i4 : (0 : Int) ≤ (k : Int) := by omega
  have hB := Lib.hid (show Sep _ (sBlk p (.slice (some ⟨g, 0, none⟩) n tc) pv S' :: tVec (.slice (some ⟨g, 0, none⟩) n tc) n vs :: blk X 36 #[.int .i64 (bt x 2), .int .i64 (bt x 3 - 1), .int .i64 (bt x 4 - 1), .int .i64 (bt x 5), .int .i64 (bt x 6), .int .i64 (bt x 7)] :: oVec (.slice ha m hc) m (S'.ths.getD k []) :: rowsG 36 6 ((List.zipWith rwO vs S'.ths).set k nilRw) :: pVec pv S'.pks.length S'.pks :: rs) from (((h3.bring 5 rfl).bring 4 rfl).bring 4 rfl).drew)
  clear h2 h3 hv q2 hpv
  have hS := Lib.hid (show (fun W : World => ∃ u q cs, Sep W (sBlk p (.slice (some ⟨g, 0, none⟩) n tc) pv S' :: tVec (.slice (some ⟨g, 0, none⟩) n tc) n vs :: blk X 36 #[.int .i64 (bt x 2), .int .i64 (bt x 3 - 1), .int .i64 (bt x 4 - 1), .int .i64 (bt x 5), .int .i64 (bt x 6), .int .i64 (bt x 7)] :: vec 36 6 u q cs :: rowsG 36 6 ((List.zipWith rwO vs S'.ths).set k nilRw) :: pVec pv S'.pks.length S'.pks :: rs)) _ from ⟨_, _, _, hB.out⟩)
  refine hx_begin (fun W : World => ∃ u q cs, Sep W (sBlk p (.slice (some ⟨g, 0, none⟩) n tc) pv S' :: tVec (.slice (some ⟨g, 0, none⟩) n tc) n vs :: blk X 36 #[.int .i64 (bt x 2), .int .i64 (bt x 3 - 1), .int .i64 (bt x 4 - 1), .int .i64 (bt x 5), .int .i64 (bt x 6), .int .i64 (bt x 7)] :: vec 36 6 u q cs :: rowsG 36 6 ((List.zipWith rwO vs S'.ths).set k nilRw) :: pVec pv S'.pks.length S'.pks :: rs)) 16 [(0, true), (1, true), (2, true), (3, true), (4, true), (5, true), (6, true), (7, true), (8, true), (9, true), (10, true), (11, true), (12, true), (13, false), (14, false), (15, true), (16, false)] [(15, 16), (14, 16), (0, 16), (1, 16), (2, 16), (3, 16), (4, 16), (5, 16), (6, 16), (7, 16), (8, 16), (9, 16), (10, 16), (11, 16), (12, 16), (13, 16)] (by kernel_rfl) (by kernel_rfl) (by kernel_rfl) (by kernel_rfl) rfl (by kernel_rfl) (by kernel_rfl) (fun _ _ _ _ _ h => h) hS.out ?_
  change HX _ _ _ _ _ _ _ (World.drew _)
  generalize World.drew _ = wd at *
  refine hx_take ?v15 rfl (by kernel_rfl) ?y15 ?z15
  case y15 => intro W hW; have := i3; have := i4; replace hW := Lib.hid hW; go_simp; try rfl
  case z15 =>
  simp only [Act.put, List.setIfInBounds_toArray, List.set_cons_succ, List.set_cons_zero, List.getElem_toArray, List.getElem_cons_zero, List.getElem_cons_succ]
  refine hx_take ?v16 rfl (by kernel_rfl) ?y16 ?z16
  case y16 => intro W hW; have := i3; have := i4; replace hW := Lib.hid hW; go_simp; try rfl
  case z16 =>
  simp only [Act.put, List.setIfInBounds_toArray, List.set_cons_succ, List.set_cons_zero, List.getElem_toArray, List.getElem_cons_zero, List.getElem_cons_succ]
  refine hx_take ?v17 rfl (by kernel_rfl) ?y17 ?z17
  case y17 => intro W hW; have := i3; have := i4; replace hW := Lib.hid hW; go_simp; try rfl
  case z17 =>
  simp only [Act.put, List.setIfInBounds_toArray, List.set_cons_succ, List.set_cons_zero, List.getElem_toArray, List.getElem_cons_zero, List.getElem_cons_succ]
  refine hx_take ?v18 rfl (by kernel_rfl) ?y18 ?z18
  case y18 => intro W hW; obtain ⟨_, _, _, hW⟩ := hW; obtain ⟨_, s0, s1, _⟩ := (show Sep _ _ from hW).b6; obtain ⟨_, x0, x1, x2, x3, x4, x5, _⟩ := (show Sep _ _ from hW).to2.b6; obtain ⟨ck, _⟩ := (show Sep _ _ from hW).to1.vec_cell hvk.out; replace hW := Lib.hid hW; go_simp; try rfl
  case z18 =>
  simp only [Act.put, List.setIfInBounds_toArray, List.set_cons_succ, List.set_cons_zero, List.getElem_toArray, List.getElem_cons_zero, List.getElem_cons_succ]
  refine hx_take ?v19 rfl (by kernel_rfl) ?y19 ?z19
  case y19 => intro W hW; have := i3; have := i4; replace hW := Lib.hid hW; go_simp; try rfl
  case z19 =>
  simp only [Act.put, List.setIfInBounds_toArray, List.set_cons_succ, List.set_cons_zero, List.getElem_toArray, List.getElem_cons_zero, List.getElem_cons_succ]
  refine hx_take ?v20 rfl (by kernel_rfl) ?y20 ?z20
  case y20 => intro W hW; have := i3; have := i4; replace hW := Lib.hid hW; go_simp; try rfl
  case z20 =>
  simp only [Act.put, List.setIfInBounds_toArray, List.set_cons_succ, List.set_cons_zero, List.getElem_toArray, List.getElem_cons_zero, List.getElem_cons_succ]
  refine hx_take ?v21 rfl (by kernel_rfl) ?y21 ?z21
  case y21 => intro W hW; have := i3; have := i4; replace hW := Lib.hid hW; go_simp; try rfl
  case z21 =>
  simp only [Act.put, List.setIfInBounds_toArray, List.set_cons_succ, List.set_cons_zero, List.getElem_toArray, List.getElem_cons_zero, List.getElem_cons_succ]
  refine hx_take ?v22 rfl (by kernel_rfl) ?y22 ?z22
  case y22 => intro W hW; have := i3; have := i4; replace hW := Lib.hid hW; go_simp; try rfl
  case z22 =>
  simp only [Act.put, List.setIfInBounds_toArray, List.set_cons_succ, List.set_cons_zero, List.getElem_toArray, List.getElem_cons_zero, List.getElem_cons_succ]
  refine hx_take ?v23 rfl (by kernel_rfl) ?y23 ?z23
  case y23 => intro W hW; obtain ⟨_, _, _, hW⟩ := hW; obtain ⟨_, s0, s1, _⟩ := (show Sep _ _ from hW).b6; obtain ⟨_, x0, x1, x2, x3, x4, x5, _⟩ := (show Sep _ _ from hW).to2.b6; obtain ⟨ck, _⟩ := (show Sep _ _ from hW).to1.vec_cell hvk.out; replace hW := Lib.hid hW; go_simp; try rfl
  case z23 =>
  simp only [Act.put, List.setIfInBounds_toArray, List.set_cons_succ, List.set_cons_zero, List.getElem_toArray, List.getElem_cons_zero, List.getElem_cons_succ]
  refine hx_take ?v24 rfl (by kernel_rfl) ?y24 ?z24
  case y24 => intro W hW; have := i3; have := i4; replace hW := Lib.hid hW; go_simp; try rfl
  case z24 =>
  simp only [Act.put, List.setIfInBounds_toArray, List.set_cons_succ, List.set_cons_zero, List.getElem_toArray, List.getElem_cons_zero, List.getElem_cons_succ]
  refine hx_take ?v25 rfl (by kernel_rfl) ?y25 ?z25
  case y25 => intro W hW; have := i3; have := i4; replace hW := Lib.hid hW; go_simp; try rfl
  case z25 =>
  simp only [Act.put, List.setIfInBounds_toArray, List.set_cons_succ, List.set_cons_zero, List.getElem_toArray, List.getElem_cons_zero, List.getElem_cons_succ]
  refine hx_take ?v26 rfl (by kernel_rfl) ?y26 ?z26
  case y26 => intro W hW; obtain ⟨_, _, _, hW⟩ := hW; obtain ⟨_, s0, s1, _⟩ := (show Sep _ _ from hW).b6; obtain ⟨_, x0, x1, x2, x3, x4, x5, _⟩ := (show Sep _ _ from hW).to2.b6; obtain ⟨ck, _⟩ := (show Sep _ _ from hW).to1.vec_cell hvk.out; replace hW := Lib.hid hW; go_simp; try rfl
  case z26 =>
  simp only [Act.put, List.setIfInBounds_toArray, List.set_cons_succ, List.set_cons_zero, List.getElem_toArray, List.getElem_cons_zero, List.getElem_cons_succ]
  refine hx_take ?v27 rfl (by kernel_rfl) ?y27 ?z27
  case y27 => intro W hW; obtain ⟨_, _, _, hW⟩ := hW; obtain ⟨_, s0, s1, _⟩ := (show Sep _ _ from hW).b6; obtain ⟨_, x0, x1, x2, x3, x4, x5, _⟩ := (show Sep _ _ from hW).to2.b6; obtain ⟨ck, _⟩ := (show Sep _ _ from hW).to1.vec_cell hvk.out; replace hW := Lib.hid hW; go_simp; try rfl
  case z27 =>
  simp only [Act.put, List.setIfInBounds_toArray, List.set_cons_succ, List.set_cons_zero, List.getElem_toArray, List.getElem_cons_zero, List.getElem_cons_succ]
  refine hx_one (by decide) rfl (by kernel_rfl) (fun K hK => ?_)
  go_simp
  replace hB := Lib.hid (hB.out.allocG (.cells #[.int .i64 (bt x 2), .int .i64 (bt x 3 - 1), .int .i64 (bt x 4 - 1), .int .i64 (bt x 5), .int .i64 (bt x 6), .int .i64 (bt x 7)] 36))
  have hsrc := Lib.hid (srcA_cells wd #[.int .i64 (bt x 2), .int .i64 (bt x 3 - 1), .int .i64 (bt x 4 - 1), .int .i64 (bt x 5), .int .i64 (bt x 6), .int .i64 (bt x 7)] 36 1 6 rfl)
  refine hK.out _ _ ⟨_, _, _, hB.out⟩ ?_
  clear hK K
  try simp only [Act.put, List.setIfInBounds_toArray, List.set_cons_succ, List.set_cons_zero, List.getElem_toArray, List.getElem_cons_zero, List.getElem_cons_succ]
  refine hx_one (by decide) rfl (by kernel_rfl) (fun K hK => ?_)
  refine wp_append_sep hB.out.to3 (.tmp 50) (.tmp 52) 44 (by rfl) i0 _ 48 Tryd.underlying44 hi0 hz0 hz1 hz2 rfl (by decide) (by rfl) 1 [.int .i64 (bt x 2), .int .i64 (bt x 3 - 1), .int .i64 (bt x 4 - 1), .int .i64 (bt x 5), .int .i64 (bt x 6), .int .i64 (bt x 7)] (by exact hsrc.out) h1c.out (by simp only [maxLen]; omega) (by omega) ?_
  intro na nc w2 q
  replace hB := Lib.hid (show Sep _ _ from q.to3.to3.to3)
  clear q hsrc
  refine hK.out _ _ ⟨_, _, _, hB.out⟩ ?_
  clear hK K
  try simp only [Act.put, List.setIfInBounds_toArray, List.set_cons_succ, List.set_cons_zero, List.getElem_toArray, List.getElem_cons_zero, List.getElem_cons_succ]
  refine hx_take ?v28 rfl (by kernel_rfl) ?y28 ?z28
  case y28 => intro W hW; have := i3; have := i4; replace hW := Lib.hid hW; go_simp; try rfl
  case z28 =>
  simp only [Act.put, List.setIfInBounds_toArray, List.set_cons_succ, List.set_cons_zero, List.getElem_toArray, List.getElem_cons_zero, List.getElem_cons_succ]
  refine hx_last rfl (by kernel_rfl) (fun K hK => ?_)
  have hck := hB.out.to1.vec_cell hvk.out
  obtain ⟨ck, gk, _⟩ := hck
  go_simp
  refine hK.out _ _ ?_
  clear ck gk
  clear hK K
  try simp only [Act.put, List.setIfInBounds_toArray, List.set_cons_succ, List.set_cons_zero, List.getElem_toArray, List.getElem_cons_zero, List.getElem_cons_succ]
  refine hx_done ?_
  go_end0
  refine ⟨rfl, ?_⟩
  rw [hconc.out]
  have h7 := hB.out.to1.vec_set (k := k) (by rw [hl.out]; exact hkn) (.slice na (m + 1) nc)
  have e6 : (S'.ths.getD k [] ++ [opOf (bt x)]).flatMap oC = (S'.ths.getD k []).flatMap oC ++ [.int .i64 (bt x 2), .int .i64 (bt x 3 - 1), .int .i64 (bt x 4 - 1), .int .i64 (bt x 5), .int .i64 (bt x 6), .int .i64 (bt x 7)] := by rw [List.flatMap_append, List.flatMap_cons, List.flatMap_nil, List.append_nil]; rfl
  have h8_ := ((h7.bring 2 rfl).tail.bring 3 rfl).bring 3 rfl
  rw [← e6] at h8_
  have h9 := th_put (l := S'.ths.getD k [] ++ [opOf (bt x)]) (by rw [List.length_append, hm.out]; rfl) (by rw [hl.out, hn.out]) (by rw [hn.out]; exact hkn) h8_
  refine scP_close (S := { S' with ths := S'.ths.set k (S'.ths.getD k [] ++ [opOf (bt x)]) }) (tv := .slice (some ⟨g, 0, none⟩) n tc) (pv := pv) (vs := vs.set k (.slice na (m + 1) nc)) (by rw [List.length_set, hl.out, List.length_set, hn.out]) ?_
  simp only [tVec, List.length_set, hn.out]
  exact h9.to2.to2.to1
theorem readOp_any (p : Nat) (S : Sc) (x : ByteArray) (hx : x.size = 8) (h8 : S.ths.length ≤ 8) (h32 : ∀ t, (S.ths.getD t []).length ≤ 32) (h0 : bt x 0 = 2) (w : World) (rs : List Res) (hS : Sep w (scP p S :: rs)) : Calls Tryd.prog 29 #[.pointer (some ⟨p, 0, none⟩), .string x] w fun e w' => e = .returned (.tuple #[]) ∧ Sep w' (scP p (stepS S (bt x)) :: rs) := by
  have e : stepS S (bt x) = if isOp (bt x) && !fullS S (bt x 1).toNat then { S with ths := addL (growL S.ths ((bt x 1).toNat + 1)) (bt x 1).toNat (opOf (bt x)) } else S := by
    unfold stepS
    rw [if_neg (by rw [h0]; decide), if_pos h0]
  rw [e]
  cases h1 : isOp (bt x) with
  | false => exact readOp_no p S x hx h8 h1 w rs hS
  | true =>
    obtain ⟨k, hk⟩ := Int.eq_ofNat_of_zero_le (bt_bd x 1).1
    have hk8 : k < 8 := by
      simp only [isOp, Bool.and_eq_true, decide_eq_true_eq] at h1
      omega
    have hk2 : (bt x 1).toNat = k := by rw [hk]; rfl
    rw [hk2]
    unfold fullS
    by_cases hlt : k < S.ths.length
    · by_cases hfl : (S.ths.getD k []).length = 32
      · rw [decide_eq_true hlt, decide_eq_true hfl]
        exact readOp_full p S x hx h8 k hk hk8 h1 hlt hfl w rs hS
      · rw [decide_eq_false hfl, Bool.and_false]
        exact readOp_room p S x hx h8 k hk hk8 h1 (h32 k) hlt hfl w rs hS
    · rw [decide_eq_false hlt, Bool.false_and]
      exact readOp_new p S x hx h8 k hk hk8 h1 (h32 k) hlt w rs hS
end Go.Proofs.YtdpolejbceoldaaDoor
