/-
  The reference's stores and logs, their slices put aside. No condition beside a log and a store that can be read.
-/
import Derived.Test.YtidbidalalajbaaS23b
import Derived.Test.YtidbidalalajbaaUx
import Derived.Test.YtidbidalalajbaaHx
namespace Go.Proofs.Ytidbidalalajbaa
open Go.RowKit
/-- The reference's store at p that holds L. -/
def rX (p : Nat) (L : Ent) : Res := exi fun q : Option Addr × Nat => star (blk p 77 #[.slice q.1 L.length q.2]) (vec 59 3 (.slice q.1 L.length q.2) L.length (L.flatMap rowC))
/-- The reference's log at p. -/
def rlg (p : Nat) (sa : Option Addr) (sc : Nat) (L : List Wa) (rs : List Res) : List Res := blk p 56 #[.slice sa L.length sc] :: vec 31 4 (.slice sa L.length sc) L.length (wacells L) :: rs
def rlX (p : Nat) (L : List Wa) : Res := exi fun q : Option Addr × Nat => star (blk p 56 #[.slice q.1 L.length q.2]) (vec 31 4 (.slice q.1 L.length q.2) L.length (wacells L))
section
variable {w w' : World} {p q : Nat} {E L : Ent} {M : List Wa} {rs : List Res} {a : Option Addr} {c : Nat}
theorem rX_open (h : Sep w (rX p L :: rs)) : ∃ a c, Sep w (rst p a c L rs) := by
  obtain ⟨⟨a, c⟩, h⟩ := h.gexi
  exact ⟨a, c, Sep.gstar.1 h⟩
theorem rX_mk (h : Sep w (rst p a c L rs)) : Sep w (rX p L :: rs) := Sep.exi_mk (f := fun q : Option Addr × Nat => star (blk p 77 #[.slice q.1 L.length q.2]) (vec 59 3 (.slice q.1 L.length q.2) L.length (L.flatMap rowC))) (a, c) (Sep.gstar.2 h)
theorem rlX_open (h : Sep w (rlX q M :: rs)) : ∃ sa sc, Sep w (rlg q sa sc M rs) := by
  obtain ⟨⟨sa, sc⟩, h⟩ := h.gexi
  exact ⟨sa, sc, Sep.gstar.1 h⟩
theorem rlX_mk (h : Sep w (rlg q a c M rs)) : Sep w (rlX q M :: rs) := Sep.exi_mk (f := fun p : Option Addr × Nat => star (blk q 56 #[.slice p.1 M.length p.2]) (vec 31 4 (.slice p.1 M.length p.2) M.length (wacells M))) (a, c) (Sep.gstar.2 h)
end
theorem rnew_x (w : World) : Calls Try.prog 20 #[] w fun e w' => ∃ p, e = .returned (.pointer (some ⟨p, 0, none⟩)) ∧ Sep w' [rX p [], old w] := by
  refine (rnew_any w).mono ?_
  rintro e w' ⟨p, rfl, q⟩
  exact ⟨p, rfl, rX_mk q⟩
theorem was_srt {E : Ent} (h : NodupL E) (t r : Int) : wasV t r (srtE E) = wasV t r E := by unfold wasV; rw [srt_get h, srt_has h]
theorem rput_yes (p : Nat) (E : Ent) (t r v : Int) (w : World) (rs : List Res) (hn : NodupL E) (hl : E.length ≤ 900) (hS : Sep w (rX p (srtE E) :: rs)) (h : isRec (t, r) = true) :
    Calls Try.prog 23 #[.pointer (some ⟨p, 0, none⟩), (.agg #[.int .i64 t, .int .i64 r]), .int .i64 v] w fun e w' => e = .returned (.tuple #[wasV t r E, .int .i64 0]) ∧ Sep w' (rX p (srtE (putL E (t, r) v)) :: rs) := by
  obtain ⟨a, c, hS⟩ := rX_open hS
  refine (putR_good p a c (srtE E) t r v w rs hS (by rw [srtE_len]; exact hl) h).mono ?_
  rintro e w' ⟨a', c', he, q⟩
  rw [was_srt hn] at he
  rw [srt_put hn] at q
  exact ⟨he, rX_mk q⟩
theorem rput_no (p : Nat) (L : Ent) (t r v : Int) (w : World) (rs : List Res) (hS : Sep w (rX p L :: rs)) (h : isRec (t, r) = false) :
    Calls Try.prog 23 #[.pointer (some ⟨p, 0, none⟩), (.agg #[.int .i64 t, .int .i64 r]), .int .i64 v] w fun e w' => e = .returned (.tuple #[was0, .int .i64 2]) ∧ Sep w' (rX p L :: rs) := by
  obtain ⟨a, c, hS⟩ := rX_open hS
  exact (putR_bad p a c L t r v w rs hS h).mono fun e w' ⟨he, q⟩ => ⟨he, rX_mk q⟩
theorem rdel_yes (p : Nat) (E : Ent) (t r : Int) (w : World) (rs : List Res) (hn : NodupL E) (hl : E.length ≤ 900) (hS : Sep w (rX p (srtE E) :: rs)) (h : isRec (t, r) = true) :
    Calls Try.prog 26 #[.pointer (some ⟨p, 0, none⟩), (.agg #[.int .i64 t, .int .i64 r])] w fun e w' => e = .returned (.tuple #[wasV t r E, .int .i64 0]) ∧ Sep w' (rX p (srtE (delL E (t, r))) :: rs) := by
  obtain ⟨a, c, hS⟩ := rX_open hS
  refine (delR_good p a c (srtE E) t r w rs hS (by rw [srtE_len]; exact hl) h).mono ?_
  rintro e w' ⟨a', c', he, q⟩
  rw [was_srt hn] at he
  rw [srt_del hn] at q
  exact ⟨he, rX_mk q⟩
theorem rdel_no (p : Nat) (L : Ent) (t r : Int) (w : World) (rs : List Res) (hS : Sep w (rX p L :: rs)) (h : isRec (t, r) = false) :
    Calls Try.prog 26 #[.pointer (some ⟨p, 0, none⟩), (.agg #[.int .i64 t, .int .i64 r])] w fun e w' => e = .returned (.tuple #[was0, .int .i64 2]) ∧ Sep w' (rX p L :: rs) := by
  obtain ⟨a, c, hS⟩ := rX_open hS
  exact (delR_bad p a c L t r w rs hS h).mono fun e w' ⟨he, q⟩ => ⟨he, rX_mk q⟩
theorem rall_x (p : Nat) (L : Ent) (w : World) (rs : List Res) (hS : Sep w (rX p L :: rs)) (hn : L.length ≤ 1000) :
    Calls Try.prog 32 #[.pointer (some ⟨p, 0, none⟩)] w fun e w' => ∃ a c, e = .returned (.slice a L.length c) ∧ Sep w' (vec 59 3 (.slice a L.length c) L.length (L.flatMap rowC) :: rX p L :: rs) := by
  obtain ⟨a, c, hS⟩ := rX_open hS
  exact (allR_any p a c L w rs hS hn).mono fun e w' ⟨a', c', he, q⟩ => ⟨a', c', he, (rX_mk (show Sep w' (rst p a c L (_ :: rs)) from (show Sep w' (_ :: _ :: _ :: rs) from q).to2.to2)).to1⟩
theorem rlnew_x (w : World) : Calls Try.prog 21 #[] w fun e w' => ∃ q, e = .returned (.pointer (some ⟨q, 0, none⟩)) ∧ Sep w' [rlX q [], old w] := by
  have h0 := Lib.hid (((Sep.start w).alloc #[.slice none 0 0] 56).vec_nil 31 4).to1
  go_enter Try.func21, Try.ntmps21
  go_wp2_with fail
  go_ret
  exact ⟨_, rfl, rlX_mk h0.out⟩
theorem recordR_any (t r : Int) (w : World) : Calls Try.prog 43 #[(.agg #[.int .i64 t, .int .i64 r])] w fun e w' => e = .returned (.bool (isRec (t, r))) ∧ Below w.heap.size w w' := by
  have hS := Lib.hid (box1 w t r)
  obtain ⟨z, c0, c1, _⟩ := hS.out.b2
  have HC := Lib.hid (fun W => recR_any t r W)
  generalize isRec (t, r) = b at *
  go_enter Try.func43, Try.ntmps43
  go_wp2_with fail
  refine (HC.out _).mono ?_
  rintro e w1 ⟨rfl, b1⟩
  replace hS := Lib.hid (hS.out.below b1)
  go_wp2_with fail
  go_ret
  exact ⟨rfl, hS.out.tail.gold⟩
theorem rnote_no (q : Nat) (L : List Wa) (x : Wa) (w : World) (rs : List Res) (hS : Sep w (rlX q L :: rs)) (h : isRec (x.t, x.r) = false) :
    Calls Try.prog 24 #[.pointer (some ⟨q, 0, none⟩), x.val] w fun e w' => e = .returned (.int .i64 2) ∧ Sep w' (rlX q L :: rs) := by
  obtain ⟨t, r, v, there⟩ := x
  have HL := Lib.hid (fun W => recordR_any t r W)
  simp only at h
  rw [h] at HL
  have hB := Lib.hid (hS.alloc #[.int .i64 t, .int .i64 r, .int .i64 v, .bool there] 31)
  obtain ⟨_, d0, d1, _⟩ := hB.out.b4
  unfold Wa.val
  simp only
  clear h hS
  go_enter Try.func24, Try.ntmps24
  go_wp2_with fail
  refine (HL.out _).mono ?_
  rintro e w1 ⟨rfl, q⟩
  replace hB := Lib.hid (hB.out.below q)
  clear q HL
  go_wp2_with fail
  go_ret
  exact ⟨rfl, hB.out.tail⟩
set_option maxHeartbeats 4000000 in
set_option maxRecDepth 100000 in
theorem rnote_cells (p n sc : Nat) (sa : Option Addr) (ss : List Value) (x : Wa) (w : World) (rs : List Res) (hS : Sep w (blk p 56 #[.slice sa n sc] :: vec 31 4 (.slice sa n sc) n ss :: rs)) (h : isRec (x.t, x.r) = true) (hn : n ≤ 1000) :
    Calls Try.prog 24 #[.pointer (some ⟨p, 0, none⟩), x.val] w fun e w' => ∃ na nc, e = .returned (.int .i64 0) ∧ Sep w' (blk p 56 #[.slice na (n + 1) nc] :: vec 31 4 (.slice na (n + 1) nc) (n + 1) (ss ++ x.cells) :: rs) := by
  obtain ⟨t, r, v, there⟩ := x
  have HL := Lib.hid (fun W => recordR_any t r W)
  simp only at h
  rw [h] at HL
  have hB := Lib.hid (show Sep _ (blk p 56 #[.slice sa n sc] :: vec 31 4 (.slice sa n sc) n ss :: blk w.heap.size 31 #[.int .i64 t, .int .i64 r, .int .i64 v, .bool there] :: rs) from (hS.alloc #[.int .i64 t, .int .i64 r, .int .i64 v, .bool there] 31).to2.to2)
  replace hn := Lib.hid hn
  obtain ⟨i0, hi0, hz0, hz1, hz2⟩ := info_parts info_was
  have h1c : Hid (∀ u ∈ ([.int .i64 t, .int .i64 r, .int .i64 v, .bool there] : List Value), u.oneCell' = true) := Lib.hid (by simp [Value.oneCell'])
  unfold Wa.val Wa.cells
  simp only
  clear hS h
  obtain ⟨_, d0, d1, _⟩ := hB.out.to2.b4
  go_enter Try.func24, Try.ntmps24
  go_wp2_with fail
  refine (HL.out _).mono ?_
  rintro e w1 ⟨rfl, q⟩
  replace hB := Lib.hid (hB.out.below q)
  clear q HL d0 d1
  go_wp2_with fail
  replace hB := Lib.hid hB.out.drew
  have hS := Lib.hid (show (fun W : World => ∃ u m cs, Sep W (blk p 56 #[.slice sa n sc] :: vec 31 4 u m cs :: blk w.heap.size 31 #[.int .i64 t, .int .i64 r, .int .i64 v, .bool there] :: rs)) _ from ⟨_, _, _, hB.out⟩)
  refine hx_begin (fun W : World => ∃ u m cs, Sep W (blk p 56 #[.slice sa n sc] :: vec 31 4 u m cs :: blk w.heap.size 31 #[.int .i64 t, .int .i64 r, .int .i64 v, .bool there] :: rs)) 10 [(0, true), (1, true), (2, true), (3, true), (4, true), (5, true), (6, false), (7, false), (8, true), (9, true), (10, false)] [(9, 10), (7, 10), (0, 10), (1, 10), (2, 10), (3, 10), (4, 10), (5, 10), (6, 10), (8, 9)] (by kernel_rfl) (by kernel_rfl) (by kernel_rfl) (by kernel_rfl) rfl (by kernel_rfl) (by kernel_rfl) (fun _ _ _ _ _ h => h) hS.out ?_
  change HX _ _ _ _ _ _ _ (World.drew _)
  generalize World.drew _ = wd at *
  refine hx_take ?v1 rfl (by kernel_rfl) ?y1 ?z1
  case y1 => intro W hW; skip; replace hW := Lib.hid hW; go_simp; try rfl
  case z1 =>
  simp only [Act.put, List.setIfInBounds_toArray, List.set_cons_succ, List.set_cons_zero, List.getElem_toArray, List.getElem_cons_zero, List.getElem_cons_succ]
  refine hx_take ?v2 rfl (by kernel_rfl) ?y2 ?z2
  case y2 => intro W hW; skip; replace hW := Lib.hid hW; go_simp; try rfl
  case z2 =>
  simp only [Act.put, List.setIfInBounds_toArray, List.set_cons_succ, List.set_cons_zero, List.getElem_toArray, List.getElem_cons_zero, List.getElem_cons_succ]
  refine hx_take ?v3 rfl (by kernel_rfl) ?y3 ?z3
  case y3 => intro W hW; skip; replace hW := Lib.hid hW; go_simp; try rfl
  case z3 =>
  simp only [Act.put, List.setIfInBounds_toArray, List.set_cons_succ, List.set_cons_zero, List.getElem_toArray, List.getElem_cons_zero, List.getElem_cons_succ]
  refine hx_take ?v4 rfl (by kernel_rfl) ?y4 ?z4
  case y4 => intro W hW; skip; replace hW := Lib.hid hW; go_simp; try rfl
  case z4 =>
  simp only [Act.put, List.setIfInBounds_toArray, List.set_cons_succ, List.set_cons_zero, List.getElem_toArray, List.getElem_cons_zero, List.getElem_cons_succ]
  refine hx_take ?v5 rfl (by kernel_rfl) ?y5 ?z5
  case y5 => intro W hW; obtain ⟨_, _, _, hW⟩ := hW; obtain ⟨_, c0, _⟩ := hW.b1; obtain ⟨_, d0, d1, d2, d3, _⟩ := hW.to2.b4; replace hW := Lib.hid hW; go_simp; try rfl
  case z5 =>
  simp only [Act.put, List.setIfInBounds_toArray, List.set_cons_succ, List.set_cons_zero, List.getElem_toArray, List.getElem_cons_zero, List.getElem_cons_succ]
  refine hx_take ?v6 rfl (by kernel_rfl) ?y6 ?z6
  case y6 => intro W hW; obtain ⟨_, _, _, hW⟩ := hW; obtain ⟨_, c0, _⟩ := hW.b1; obtain ⟨_, d0, d1, d2, d3, _⟩ := hW.to2.b4; replace hW := Lib.hid hW; go_simp; try rfl
  case z6 =>
  simp only [Act.put, List.setIfInBounds_toArray, List.set_cons_succ, List.set_cons_zero, List.getElem_toArray, List.getElem_cons_zero, List.getElem_cons_succ]
  refine hx_one (by decide) rfl (by kernel_rfl) (fun K hK => ?_)
  go_simp
  replace hB := Lib.hid (hB.out.allocG (.cells #[.int .i64 t, .int .i64 r, .int .i64 v, .bool there] 31))
  have hsrc := Lib.hid (srcA_cells wd #[.int .i64 t, .int .i64 r, .int .i64 v, .bool there] 31 1 4 rfl)
  refine hK.out _ _ ⟨_, _, _, hB.out⟩ ?_
  clear hK K
  try simp only [Act.put, List.setIfInBounds_toArray, List.set_cons_succ, List.set_cons_zero, List.getElem_toArray, List.getElem_cons_zero, List.getElem_cons_succ]
  refine hx_one (by decide) rfl (by kernel_rfl) (fun K hK => ?_)
  refine wp_append_sep hB.out.to1 (.tmp 13) (.tmp 15) 37 (by rfl) i0 _ 32 Try.underlying37 hi0 hz0 hz1 hz2 rfl (by decide) (by rfl) 1 [.int .i64 t, .int .i64 r, .int .i64 v, .bool there] (by exact hsrc.out) h1c.out ?c901 ?d901 ?_
  case c901 => have := hn.out; simp only [maxLen]; omega
  case d901 => have := hn.out; omega
  intro na nc w1 q
  replace hB := Lib.hid (show Sep _ _ from q.to1)
  clear q hsrc
  refine hK.out _ _ ⟨_, _, _, hB.out⟩ ?_
  clear hK K
  try simp only [Act.put, List.setIfInBounds_toArray, List.set_cons_succ, List.set_cons_zero, List.getElem_toArray, List.getElem_cons_zero, List.getElem_cons_succ]
  refine hx_take ?v7 rfl (by kernel_rfl) ?y7 ?z7
  case y7 => intro W hW; skip; replace hW := Lib.hid hW; go_simp; try rfl
  case z7 =>
  simp only [Act.put, List.setIfInBounds_toArray, List.set_cons_succ, List.set_cons_zero, List.getElem_toArray, List.getElem_cons_zero, List.getElem_cons_succ]
  refine hx_take ?v8 rfl (by kernel_rfl) ?y8 ?z8
  case y8 => intro W hW; skip; replace hW := Lib.hid hW; go_simp; try rfl
  case z8 =>
  simp only [Act.put, List.setIfInBounds_toArray, List.set_cons_succ, List.set_cons_zero, List.getElem_toArray, List.getElem_cons_zero, List.getElem_cons_succ]
  refine hx_last rfl (by kernel_rfl) (fun K hK => ?_)
  obtain ⟨_, y0, f0⟩ := hB.out.b1
  go_simp
  replace hB := Lib.hid (hB.out.set 0 (.slice na (n + 1) nc))
  refine hK.out _ _ ?_
  clear hK K
  try simp only [Act.put, List.setIfInBounds_toArray, List.set_cons_succ, List.set_cons_zero, List.getElem_toArray, List.getElem_cons_zero, List.getElem_cons_succ]
  refine hx_done ?_
  clear hS
  go_wp2_with fail
  go_ret
  exact ⟨na, nc, rfl, hB.out.to2.tail⟩
theorem rnote_yes (q : Nat) (L : List Wa) (x : Wa) (w : World) (rs : List Res) (hS : Sep w (rlX q L :: rs)) (h : isRec (x.t, x.r) = true) (hn : L.length ≤ 1000) :
    Calls Try.prog 24 #[.pointer (some ⟨q, 0, none⟩), x.val] w fun e w' => e = .returned (.int .i64 0) ∧ Sep w' (rlX q (L ++ [x]) :: rs) := by
  obtain ⟨sa, sc, hS⟩ := rlX_open hS
  refine (rnote_cells q L.length sc sa _ x w rs hS h hn).mono ?_
  rintro e w' ⟨na, nc, rfl, hq⟩
  refine ⟨rfl, rlX_mk (a := na) (c := nc) ?_⟩
  unfold rlg
  rw [List.length_append, wacells_snoc]
  exact hq
theorem rclear_x (q : Nat) (L : List Wa) (w : World) (rs : List Res) (hS : Sep w (rlX q L :: rs)) :
    Calls Try.prog 27 #[.pointer (some ⟨q, 0, none⟩)] w fun e w' => e = .returned (.int .i64 L.length) ∧ Sep w' (rlX q [] :: rs) := by
  obtain ⟨sa, sc, hS⟩ := rlX_open hS
  obtain ⟨_, c0, f0⟩ := hS.b1
  have hZ := Lib.hid (((hS.set 0 (.slice none 0 0)).to1.tail.vec_nil 31 4).to1)
  generalize hm : L.length = m at *
  replace hm := Lib.hid hm
  clear hS
  go_enter Try.func27, Try.ntmps27
  go_wp2_with fail
  go_ret
  exact ⟨rfl, rlX_mk (show Sep _ (rlg q none 0 [] rs) from hZ.out)⟩
theorem fresh_was (w : World) : Sep (w.alloc (.cells #[] 31)) [vec 31 4 (.slice (some ⟨w.heap.size, 0, none⟩) 0 0) 0 [], old w] :=
  (Sep.start w).vec_new (World.ownsRow_made w #[] 0 (Nat.le_refl _) (Nat.zero_le _) rfl) ((Below.refl _ _).alloc (Nat.le_refl _) _)
set_option maxHeartbeats 4000000 in
theorem rlist_any (q sc : Nat) (sa : Option Addr) (L : List Wa) (w : World) (rs : List Res) (hS : Sep w (rlg q sa sc L rs)) (hn : L.length ≤ 1000) :
    Calls Try.prog 29 #[.pointer (some ⟨q, 0, none⟩)] w fun e w' => ∃ a c, e = .returned (.slice a L.length c) ∧ Sep w' (vec 31 4 (.slice a L.length c) L.length (wacells L) :: rlg q sa sc L rs) := by
  have hr1 := Lib.hid (wacells_one L)
  obtain ⟨i0, hi0, hz0, hz1, hz2⟩ := info_parts info_was
  have hE := Lib.hid ((fresh_was w).graft hS)
  have hsrc := Lib.hid (show SrcA (w.alloc (.cells #[] 31)) 4 (.slice sa L.length sc) L.length (wacells L) from (show Sep _ (_ :: _ :: vec 31 4 (.slice sa L.length sc) L.length (wacells L) :: rs) from hE.out).to2.vec_rl.srcA)
  obtain ⟨_, c0, _⟩ := (show Sep _ (_ :: blk q 56 #[.slice sa L.length sc] :: _) from hE.out).to1.b1
  clear hS
  unfold rlg at *
  generalize hl : L.length = n at *
  replace hl := Lib.hid hl
  go_enter Try.func29, Try.ntmps29
  go_wp2_with (at_builtin; refine wpList_append_sep hE.out rfl _ _ 37 rfl i0 _ 32 Try.underlying37 hi0 hz0 hz1 hz2 rfl (by decide) rfl n (wacells L) hsrc.out hr1.out (by simp only [maxLen]; omega) (by omega) ?_; intro a' c' w1 hS1; try simp only [Nat.zero_add, List.nil_append] at hS1; replace hS1 := Lib.hid hS1)
  go_ret
  exact ⟨a', c', by simp, hS1.out⟩
set_option maxHeartbeats 8000000 in
set_option maxRecDepth 100000 in
theorem rback_x (p q : Nat) (E : Ent) (L : List Wa) (w : World) (rs : List Res) (hS : Sep w (rX p (srtE E) :: rlX q L :: rs)) (hn : NodupL E) (hE : E.length + L.length ≤ 800) :
    Calls Try.prog 28 #[.pointer (some ⟨q, 0, none⟩), .pointer (some ⟨p, 0, none⟩)] w fun e w' => e = .returned (.tuple #[.int .i64 L.length, .int .i64 0]) ∧ Sep w' (rX p (srtE (undoA L E)) :: rlX q [] :: rs) := by
  obtain ⟨sa, sc, hS⟩ := rlX_open hS.to1
  have HC := Lib.hid (fun W rs h => rclear_x q L W rs h)
  obtain ⟨n, hl⟩ : ∃ n, L.length = n := ⟨_, rfl⟩
  have hB := Lib.hid (show Sep w (rX p (srtE E) :: blk q 56 #[.slice sa n sc] :: vec 31 4 (.slice sa n sc) n (wacells L) :: rs) from by rw [← hl]; exact (show Sep w (_ :: _ :: rX p (srtE E) :: rs) from hS).to2)
  rw [hl] at hE HC ⊢
  replace hl := Lib.hid hl
  have hmk := Lib.hid (fun (W : World) (X : Ent) (h : Sep W (rX p X :: blk q 56 #[.slice sa n sc] :: vec 31 4 (.slice sa n sc) n (wacells L) :: rs)) => (rlX_mk (q := q) (M := L) (a := sa) (c := sc) (by unfold rlg; rw [hl.out]; exact h.to2.to2) : Sep W (rlX q L :: rX p X :: rs)))
  have hfin := Lib.hid (show (L.drop 0).reverse.foldl undo1 E = undoA L E from rfl)
  have hstp := Lib.hid (fun (k : Nat) (x : Wa) (h : L[k]? = some x) => show (L.drop k).reverse.foldl undo1 E = undo1 ((L.drop (k + 1)).reverse.foldl undo1 E) x from by
    obtain ⟨h1, h2⟩ := List.getElem?_eq_some_iff.1 h
    rw [List.drop_eq_getElem_cons h1, h2, List.reverse_cons, List.foldl_append]
    rfl)
  obtain ⟨_, c0, _⟩ := hB.out.to1.b1
  clear hS
  go_enter Try.func28, Try.ntmps28
  go_wp2_with fail
  clear c0
  go_loopg [6] n (fun gm s6 W => ∃ (k : Nat) (E2 : Ent), k ≤ n ∧ gm = k ∧ s6 = .int .i64 ((k : Int) - 1) ∧ Hid (E2 = (L.drop k).reverse.foldl undo1 E) ∧ Hid (NodupL E2) ∧ Hid (E2.length ≤ E.length + (n - k)) ∧ Hid (Sep W (rX p (srtE E2) :: blk q 56 #[.slice sa n sc] :: vec 31 4 (.slice sa n sc) n (wacells L) :: rs)))
  case atStart => exact ⟨n, E, Nat.le_refl _, rfl, by simp, Lib.hid (by rw [← hl.out, List.drop_length]; rfl), Lib.hid hn, Lib.hid (by omega), hB⟩
  case round =>
    clear hB
    obtain ⟨k, E2, hk, hgm, rfl, hst, hnd, hEl, hB⟩ := hrel
    obtain ⟨_, c0, _⟩ := hB.out.to1.b1
    cases k with
    | zero =>
      rw [hfin.out] at hst
      replace hmk := Lib.hid (hmk.out _ _ hB.out)
      replace HC := Lib.hid (HC.out _ _ hmk.out)
      rw [hst.out] at HC
      clear hst hgm
      go_wp2_with fail
      refine HC.out.mono ?_
      rintro e w5 ⟨rfl, q5⟩
      replace q5 := Lib.hid q5.to1
      go_wp2_with fail
      refine bodyPost_ret (v := .tuple #[.int .i64 n, .int .i64 0]) (by first | simp [results, Try.results28, go_sem, *] | simp [results, Try.resultsN28, go_sem, *]) rfl ⟨rfl, q5.out⟩
    | succ k =>
      have ek : ((k + 1 : Nat) : Int) - 1 = (k : Int) := by omega
      rw [ek]
      obtain ⟨b, off, rfl, hb, zz0⟩ := wa_cells (hB.out.bring 2 rfl).vec_rl hl.out (by omega)
      obtain ⟨x, hx0⟩ : ∃ x, L[k]? = some x := ⟨L[k]'(by rw [hl.out]; omega), List.getElem?_eq_getElem _⟩
      have hstep := Lib.hid (show (L.drop k).reverse.foldl undo1 E = undo1 E2 x by rw [hst.out]; exact hstp.out k x hx0)
      have hx := Lib.hid hx0
      clear zz0 hx0 hst
      obtain ⟨t, r, v, there⟩ := x
      have hW := hB.out
      obtain ⟨_, c0, _⟩ := (hW.bring 1 rfl).b1
      obtain ⟨b', off', e1, hb', zz⟩ := wa_cells (hW.bring 2 rfl).vec_rl hl.out (by omega)
      injection e1 with e1
      injection e1 with e1 e2 e3
      subst e1
      subst e2
      obtain ⟨z0, z1, z2, z3⟩ := zz k _ hx.out
      simp only [← Nat.add_assoc, Nat.add_zero] at z0 z1 z2 z3
      clear zz
      replace hW := Lib.hid hW
      clear hW hb' e3
      have i1 : (0 : Int) ≤ (k : Int) := by omega
      have i2 : (k : Int) < (n : Int) := by omega
      try simp only at z0 z1 z2 z3
      cases there with
      | true =>
        cases hrec : isRec (t, r) with
        | true =>
          have HP := Lib.hid (fun W rs h => rput_yes p E2 t r v W rs hnd.out (by have := hEl.out; omega) h hrec)
          have hun := Lib.hid (show undo1 E2 ⟨t, r, v, true⟩ = putL E2 (t, r) v by simp [undo1, hrec])
          go_wp2_with fail
          replace hB := Lib.hid hB.out.drew
          clear z0 z1 z2 z3 c0
          have hS := Lib.hid (show (fun W : World => ∃ X, Sep W (rX p X :: blk q 56 #[.slice (some ⟨b, off, none⟩) n sc] :: vec 31 4 (.slice (some ⟨b, off, none⟩) n sc) n (wacells L) :: rs)) _ from ⟨_, hB.out⟩)
          refine hl_begin (fun W : World => ∃ X, Sep W (rX p X :: blk q 56 #[.slice (some ⟨b, off, none⟩) n sc] :: vec 31 4 (.slice (some ⟨b, off, none⟩) n sc) n (wacells L) :: rs)) [(0, true), (1, true), (2, true), (3, true), (4, true), (5, true), (6, true), (7, true), (8, true), (9, true), (10, true), (11, true), (12, true), (13, true), (14, true), (15, true), (16, true), (17, false)] (by kernel_rfl) (by kernel_rfl) (by kernel_rfl) rfl (fun _ _ _ _ _ h => h) hS.out ?_
          change HL _ _ _ _ _ _ (World.drew _)
          generalize World.drew _ = wd at *
          refine hl_take ?v9 rfl (by kernel_rfl) ?y9 ?z9
          case y9 => intro W hW; skip; replace hW := Lib.hid hW; go_simp; try rfl
          case z9 =>
          simp only [Act.put, List.setIfInBounds_toArray, List.set_cons_succ, List.set_cons_zero, List.getElem_toArray, List.getElem_cons_zero, List.getElem_cons_succ]
          refine hl_take ?v10 rfl (by kernel_rfl) ?y10 ?z10
          case y10 => intro W hW; skip; replace hW := Lib.hid hW; go_simp; try rfl
          case z10 =>
          simp only [Act.put, List.setIfInBounds_toArray, List.set_cons_succ, List.set_cons_zero, List.getElem_toArray, List.getElem_cons_zero, List.getElem_cons_succ]
          refine hl_take ?v11 rfl (by kernel_rfl) ?y11 ?z11
          case y11 => intro W hW; skip; replace hW := Lib.hid hW; go_simp; try rfl
          case z11 =>
          simp only [Act.put, List.setIfInBounds_toArray, List.set_cons_succ, List.set_cons_zero, List.getElem_toArray, List.getElem_cons_zero, List.getElem_cons_succ]
          refine hl_take ?v12 rfl (by kernel_rfl) ?y12 ?z12
          case y12 => intro W hW; skip; replace hW := Lib.hid hW; go_simp; try rfl
          case z12 =>
          simp only [Act.put, List.setIfInBounds_toArray, List.set_cons_succ, List.set_cons_zero, List.getElem_toArray, List.getElem_cons_zero, List.getElem_cons_succ]
          refine hl_take ?v13 rfl (by kernel_rfl) ?y13 ?z13
          case y13 => intro W hW; obtain ⟨_, hW⟩ := hW; obtain ⟨_, c0, _⟩ := (hW.bring 1 rfl).b1; obtain ⟨b', off', e1, hb', zz⟩ := wa_cells (hW.bring 2 rfl).vec_rl hl.out (by omega); injection e1 with e1; injection e1 with e1 e2 e3; subst e1; subst e2; obtain ⟨z0, z1, z2, z3⟩ := zz k _ hx.out; simp only [← Nat.add_assoc, Nat.add_zero] at z0 z1 z2 z3; clear zz; replace hW := Lib.hid hW; go_simp; try rfl
          case z13 =>
          simp only [Act.put, List.setIfInBounds_toArray, List.set_cons_succ, List.set_cons_zero, List.getElem_toArray, List.getElem_cons_zero, List.getElem_cons_succ]
          refine hl_take ?v14 rfl (by kernel_rfl) ?y14 ?z14
          case y14 => intro W hW; skip; replace hW := Lib.hid hW; go_simp; try rfl
          case z14 =>
          simp only [Act.put, List.setIfInBounds_toArray, List.set_cons_succ, List.set_cons_zero, List.getElem_toArray, List.getElem_cons_zero, List.getElem_cons_succ]
          refine hl_take ?v15 rfl (by kernel_rfl) ?y15 ?z15
          case y15 => intro W hW; skip; replace hW := Lib.hid hW; go_simp; try rfl
          case z15 =>
          simp only [Act.put, List.setIfInBounds_toArray, List.set_cons_succ, List.set_cons_zero, List.getElem_toArray, List.getElem_cons_zero, List.getElem_cons_succ]
          refine hl_take ?v16 rfl (by kernel_rfl) ?y16 ?z16
          case y16 => intro W hW; skip; replace hW := Lib.hid hW; go_simp; try rfl
          case z16 =>
          simp only [Act.put, List.setIfInBounds_toArray, List.set_cons_succ, List.set_cons_zero, List.getElem_toArray, List.getElem_cons_zero, List.getElem_cons_succ]
          refine hl_take ?v17 rfl (by kernel_rfl) ?y17 ?z17
          case y17 => intro W hW; obtain ⟨_, hW⟩ := hW; obtain ⟨_, c0, _⟩ := (hW.bring 1 rfl).b1; obtain ⟨b', off', e1, hb', zz⟩ := wa_cells (hW.bring 2 rfl).vec_rl hl.out (by omega); injection e1 with e1; injection e1 with e1 e2 e3; subst e1; subst e2; obtain ⟨z0, z1, z2, z3⟩ := zz k _ hx.out; simp only [← Nat.add_assoc, Nat.add_zero] at z0 z1 z2 z3; clear zz; replace hW := Lib.hid hW; go_simp; try rfl
          case z17 =>
          simp only [Act.put, List.setIfInBounds_toArray, List.set_cons_succ, List.set_cons_zero, List.getElem_toArray, List.getElem_cons_zero, List.getElem_cons_succ]
          refine hl_take ?v18 rfl (by kernel_rfl) ?y18 ?z18
          case y18 => intro W hW; skip; replace hW := Lib.hid hW; go_simp; try rfl
          case z18 =>
          simp only [Act.put, List.setIfInBounds_toArray, List.set_cons_succ, List.set_cons_zero, List.getElem_toArray, List.getElem_cons_zero, List.getElem_cons_succ]
          refine hl_take ?v19 rfl (by kernel_rfl) ?y19 ?z19
          case y19 => intro W hW; skip; replace hW := Lib.hid hW; go_simp; try rfl
          case z19 =>
          simp only [Act.put, List.setIfInBounds_toArray, List.set_cons_succ, List.set_cons_zero, List.getElem_toArray, List.getElem_cons_zero, List.getElem_cons_succ]
          refine hl_take ?v20 rfl (by kernel_rfl) ?y20 ?z20
          case y20 => intro W hW; skip; replace hW := Lib.hid hW; go_simp; try rfl
          case z20 =>
          simp only [Act.put, List.setIfInBounds_toArray, List.set_cons_succ, List.set_cons_zero, List.getElem_toArray, List.getElem_cons_zero, List.getElem_cons_succ]
          refine hl_take ?v21 rfl (by kernel_rfl) ?y21 ?z21
          case y21 => intro W hW; obtain ⟨_, hW⟩ := hW; obtain ⟨_, c0, _⟩ := (hW.bring 1 rfl).b1; obtain ⟨b', off', e1, hb', zz⟩ := wa_cells (hW.bring 2 rfl).vec_rl hl.out (by omega); injection e1 with e1; injection e1 with e1 e2 e3; subst e1; subst e2; obtain ⟨z0, z1, z2, z3⟩ := zz k _ hx.out; simp only [← Nat.add_assoc, Nat.add_zero] at z0 z1 z2 z3; clear zz; replace hW := Lib.hid hW; go_simp; try rfl
          case z21 =>
          simp only [Act.put, List.setIfInBounds_toArray, List.set_cons_succ, List.set_cons_zero, List.getElem_toArray, List.getElem_cons_zero, List.getElem_cons_succ]
          refine hl_take ?v22 rfl (by kernel_rfl) ?y22 ?z22
          case y22 => intro W hW; skip; replace hW := Lib.hid hW; go_simp; try rfl
          case z22 =>
          simp only [Act.put, List.setIfInBounds_toArray, List.set_cons_succ, List.set_cons_zero, List.getElem_toArray, List.getElem_cons_zero, List.getElem_cons_succ]
          refine hl_take ?v23 rfl (by kernel_rfl) ?y23 ?z23
          case y23 => intro W hW; skip; replace hW := Lib.hid hW; go_simp; try rfl
          case z23 =>
          simp only [Act.put, List.setIfInBounds_toArray, List.set_cons_succ, List.set_cons_zero, List.getElem_toArray, List.getElem_cons_zero, List.getElem_cons_succ]
          refine hl_take ?v24 rfl (by kernel_rfl) ?y24 ?z24
          case y24 => intro W hW; skip; replace hW := Lib.hid hW; go_simp; try rfl
          case z24 =>
          simp only [Act.put, List.setIfInBounds_toArray, List.set_cons_succ, List.set_cons_zero, List.getElem_toArray, List.getElem_cons_zero, List.getElem_cons_succ]
          refine hl_take ?v25 rfl (by kernel_rfl) ?y25 ?z25
          case y25 => intro W hW; obtain ⟨_, hW⟩ := hW; obtain ⟨_, c0, _⟩ := (hW.bring 1 rfl).b1; obtain ⟨b', off', e1, hb', zz⟩ := wa_cells (hW.bring 2 rfl).vec_rl hl.out (by omega); injection e1 with e1; injection e1 with e1 e2 e3; subst e1; subst e2; obtain ⟨z0, z1, z2, z3⟩ := zz k _ hx.out; simp only [← Nat.add_assoc, Nat.add_zero] at z0 z1 z2 z3; clear zz; replace hW := Lib.hid hW; go_simp; try rfl
          case z25 =>
          simp only [Act.put, List.setIfInBounds_toArray, List.set_cons_succ, List.set_cons_zero, List.getElem_toArray, List.getElem_cons_zero, List.getElem_cons_succ]
          refine hl_one rfl (by kernel_rfl) (fun K hK => ?_)
          go_simp
          refine (HP.out _ _ hB.out).mono ?_
          rintro e w5 ⟨rfl, q2⟩
          replace hB := Lib.hid q2
          clear q2
          refine hK.out _ _ ⟨_, hB.out⟩ ?_
          clear hK K
          try simp only [Act.put, List.setIfInBounds_toArray, List.set_cons_succ, List.set_cons_zero, List.getElem_toArray, List.getElem_cons_zero, List.getElem_cons_succ]
          refine hl_done ?_
          clear hS
          go_wp2_with fail
          go_roundg k
          case measure => omega
          case rel => exact ⟨k, undo1 E2 ⟨t, r, v, true⟩, by omega, rfl, by first | go_num | (simp; omega), by rw [hstep.out]; exact Lib.hid rfl, Lib.hid (by rw [hun.out]; exact hnd.out.put _ _), Lib.hid (by rw [hun.out]; have h1 := hEl.out; have h2 := putL_len E2 (t, r) v; omega), Lib.hid (by rw [hun.out]; exact hB.out)⟩
        | false =>
          have HP := Lib.hid (fun W rs h => rput_no p (srtE E2) t r v W rs h hrec)
          have hun := Lib.hid (show undo1 E2 ⟨t, r, v, true⟩ = E2 by simp [undo1, hrec])
          go_wp2_with fail
          replace hB := Lib.hid hB.out.drew
          clear z0 z1 z2 z3 c0
          have hS := Lib.hid (show (fun W : World => ∃ X, Sep W (rX p X :: blk q 56 #[.slice (some ⟨b, off, none⟩) n sc] :: vec 31 4 (.slice (some ⟨b, off, none⟩) n sc) n (wacells L) :: rs)) _ from ⟨_, hB.out⟩)
          refine hl_begin (fun W : World => ∃ X, Sep W (rX p X :: blk q 56 #[.slice (some ⟨b, off, none⟩) n sc] :: vec 31 4 (.slice (some ⟨b, off, none⟩) n sc) n (wacells L) :: rs)) [(0, true), (1, true), (2, true), (3, true), (4, true), (5, true), (6, true), (7, true), (8, true), (9, true), (10, true), (11, true), (12, true), (13, true), (14, true), (15, true), (16, true), (17, false)] (by kernel_rfl) (by kernel_rfl) (by kernel_rfl) rfl (fun _ _ _ _ _ h => h) hS.out ?_
          change HL _ _ _ _ _ _ (World.drew _)
          generalize World.drew _ = wd at *
          refine hl_take ?v26 rfl (by kernel_rfl) ?y26 ?z26
          case y26 => intro W hW; skip; replace hW := Lib.hid hW; go_simp; try rfl
          case z26 =>
          simp only [Act.put, List.setIfInBounds_toArray, List.set_cons_succ, List.set_cons_zero, List.getElem_toArray, List.getElem_cons_zero, List.getElem_cons_succ]
          refine hl_take ?v27 rfl (by kernel_rfl) ?y27 ?z27
          case y27 => intro W hW; skip; replace hW := Lib.hid hW; go_simp; try rfl
          case z27 =>
          simp only [Act.put, List.setIfInBounds_toArray, List.set_cons_succ, List.set_cons_zero, List.getElem_toArray, List.getElem_cons_zero, List.getElem_cons_succ]
          refine hl_take ?v28 rfl (by kernel_rfl) ?y28 ?z28
          case y28 => intro W hW; skip; replace hW := Lib.hid hW; go_simp; try rfl
          case z28 =>
          simp only [Act.put, List.setIfInBounds_toArray, List.set_cons_succ, List.set_cons_zero, List.getElem_toArray, List.getElem_cons_zero, List.getElem_cons_succ]
          refine hl_take ?v29 rfl (by kernel_rfl) ?y29 ?z29
          case y29 => intro W hW; skip; replace hW := Lib.hid hW; go_simp; try rfl
          case z29 =>
          simp only [Act.put, List.setIfInBounds_toArray, List.set_cons_succ, List.set_cons_zero, List.getElem_toArray, List.getElem_cons_zero, List.getElem_cons_succ]
          refine hl_take ?v30 rfl (by kernel_rfl) ?y30 ?z30
          case y30 => intro W hW; obtain ⟨_, hW⟩ := hW; obtain ⟨_, c0, _⟩ := (hW.bring 1 rfl).b1; obtain ⟨b', off', e1, hb', zz⟩ := wa_cells (hW.bring 2 rfl).vec_rl hl.out (by omega); injection e1 with e1; injection e1 with e1 e2 e3; subst e1; subst e2; obtain ⟨z0, z1, z2, z3⟩ := zz k _ hx.out; simp only [← Nat.add_assoc, Nat.add_zero] at z0 z1 z2 z3; clear zz; replace hW := Lib.hid hW; go_simp; try rfl
          case z30 =>
          simp only [Act.put, List.setIfInBounds_toArray, List.set_cons_succ, List.set_cons_zero, List.getElem_toArray, List.getElem_cons_zero, List.getElem_cons_succ]
          refine hl_take ?v31 rfl (by kernel_rfl) ?y31 ?z31
          case y31 => intro W hW; skip; replace hW := Lib.hid hW; go_simp; try rfl
          case z31 =>
          simp only [Act.put, List.setIfInBounds_toArray, List.set_cons_succ, List.set_cons_zero, List.getElem_toArray, List.getElem_cons_zero, List.getElem_cons_succ]
          refine hl_take ?v32 rfl (by kernel_rfl) ?y32 ?z32
          case y32 => intro W hW; skip; replace hW := Lib.hid hW; go_simp; try rfl
          case z32 =>
          simp only [Act.put, List.setIfInBounds_toArray, List.set_cons_succ, List.set_cons_zero, List.getElem_toArray, List.getElem_cons_zero, List.getElem_cons_succ]
          refine hl_take ?v33 rfl (by kernel_rfl) ?y33 ?z33
          case y33 => intro W hW; skip; replace hW := Lib.hid hW; go_simp; try rfl
          case z33 =>
          simp only [Act.put, List.setIfInBounds_toArray, List.set_cons_succ, List.set_cons_zero, List.getElem_toArray, List.getElem_cons_zero, List.getElem_cons_succ]
          refine hl_take ?v34 rfl (by kernel_rfl) ?y34 ?z34
          case y34 => intro W hW; obtain ⟨_, hW⟩ := hW; obtain ⟨_, c0, _⟩ := (hW.bring 1 rfl).b1; obtain ⟨b', off', e1, hb', zz⟩ := wa_cells (hW.bring 2 rfl).vec_rl hl.out (by omega); injection e1 with e1; injection e1 with e1 e2 e3; subst e1; subst e2; obtain ⟨z0, z1, z2, z3⟩ := zz k _ hx.out; simp only [← Nat.add_assoc, Nat.add_zero] at z0 z1 z2 z3; clear zz; replace hW := Lib.hid hW; go_simp; try rfl
          case z34 =>
          simp only [Act.put, List.setIfInBounds_toArray, List.set_cons_succ, List.set_cons_zero, List.getElem_toArray, List.getElem_cons_zero, List.getElem_cons_succ]
          refine hl_take ?v35 rfl (by kernel_rfl) ?y35 ?z35
          case y35 => intro W hW; skip; replace hW := Lib.hid hW; go_simp; try rfl
          case z35 =>
          simp only [Act.put, List.setIfInBounds_toArray, List.set_cons_succ, List.set_cons_zero, List.getElem_toArray, List.getElem_cons_zero, List.getElem_cons_succ]
          refine hl_take ?v36 rfl (by kernel_rfl) ?y36 ?z36
          case y36 => intro W hW; skip; replace hW := Lib.hid hW; go_simp; try rfl
          case z36 =>
          simp only [Act.put, List.setIfInBounds_toArray, List.set_cons_succ, List.set_cons_zero, List.getElem_toArray, List.getElem_cons_zero, List.getElem_cons_succ]
          refine hl_take ?v37 rfl (by kernel_rfl) ?y37 ?z37
          case y37 => intro W hW; skip; replace hW := Lib.hid hW; go_simp; try rfl
          case z37 =>
          simp only [Act.put, List.setIfInBounds_toArray, List.set_cons_succ, List.set_cons_zero, List.getElem_toArray, List.getElem_cons_zero, List.getElem_cons_succ]
          refine hl_take ?v38 rfl (by kernel_rfl) ?y38 ?z38
          case y38 => intro W hW; obtain ⟨_, hW⟩ := hW; obtain ⟨_, c0, _⟩ := (hW.bring 1 rfl).b1; obtain ⟨b', off', e1, hb', zz⟩ := wa_cells (hW.bring 2 rfl).vec_rl hl.out (by omega); injection e1 with e1; injection e1 with e1 e2 e3; subst e1; subst e2; obtain ⟨z0, z1, z2, z3⟩ := zz k _ hx.out; simp only [← Nat.add_assoc, Nat.add_zero] at z0 z1 z2 z3; clear zz; replace hW := Lib.hid hW; go_simp; try rfl
          case z38 =>
          simp only [Act.put, List.setIfInBounds_toArray, List.set_cons_succ, List.set_cons_zero, List.getElem_toArray, List.getElem_cons_zero, List.getElem_cons_succ]
          refine hl_take ?v39 rfl (by kernel_rfl) ?y39 ?z39
          case y39 => intro W hW; skip; replace hW := Lib.hid hW; go_simp; try rfl
          case z39 =>
          simp only [Act.put, List.setIfInBounds_toArray, List.set_cons_succ, List.set_cons_zero, List.getElem_toArray, List.getElem_cons_zero, List.getElem_cons_succ]
          refine hl_take ?v40 rfl (by kernel_rfl) ?y40 ?z40
          case y40 => intro W hW; skip; replace hW := Lib.hid hW; go_simp; try rfl
          case z40 =>
          simp only [Act.put, List.setIfInBounds_toArray, List.set_cons_succ, List.set_cons_zero, List.getElem_toArray, List.getElem_cons_zero, List.getElem_cons_succ]
          refine hl_take ?v41 rfl (by kernel_rfl) ?y41 ?z41
          case y41 => intro W hW; skip; replace hW := Lib.hid hW; go_simp; try rfl
          case z41 =>
          simp only [Act.put, List.setIfInBounds_toArray, List.set_cons_succ, List.set_cons_zero, List.getElem_toArray, List.getElem_cons_zero, List.getElem_cons_succ]
          refine hl_take ?v42 rfl (by kernel_rfl) ?y42 ?z42
          case y42 => intro W hW; obtain ⟨_, hW⟩ := hW; obtain ⟨_, c0, _⟩ := (hW.bring 1 rfl).b1; obtain ⟨b', off', e1, hb', zz⟩ := wa_cells (hW.bring 2 rfl).vec_rl hl.out (by omega); injection e1 with e1; injection e1 with e1 e2 e3; subst e1; subst e2; obtain ⟨z0, z1, z2, z3⟩ := zz k _ hx.out; simp only [← Nat.add_assoc, Nat.add_zero] at z0 z1 z2 z3; clear zz; replace hW := Lib.hid hW; go_simp; try rfl
          case z42 =>
          simp only [Act.put, List.setIfInBounds_toArray, List.set_cons_succ, List.set_cons_zero, List.getElem_toArray, List.getElem_cons_zero, List.getElem_cons_succ]
          refine hl_one rfl (by kernel_rfl) (fun K hK => ?_)
          go_simp
          refine (HP.out _ _ hB.out).mono ?_
          rintro e w5 ⟨rfl, q2⟩
          replace hB := Lib.hid q2
          clear q2
          refine hK.out _ _ ⟨_, hB.out⟩ ?_
          clear hK K
          try simp only [Act.put, List.setIfInBounds_toArray, List.set_cons_succ, List.set_cons_zero, List.getElem_toArray, List.getElem_cons_zero, List.getElem_cons_succ]
          refine hl_done ?_
          clear hS
          go_wp2_with fail
          go_roundg k
          case measure => omega
          case rel => exact ⟨k, undo1 E2 ⟨t, r, v, true⟩, by omega, rfl, by first | go_num | (simp; omega), by rw [hstep.out]; exact Lib.hid rfl, Lib.hid (by rw [hun.out]; exact hnd.out), Lib.hid (by rw [hun.out]; have h1 := hEl.out; omega), Lib.hid (by rw [hun.out]; exact hB.out)⟩
      | false =>
        cases hrec : isRec (t, r) with
        | true =>
          have HP := Lib.hid (fun W rs h => rdel_yes p E2 t r W rs hnd.out (by have := hEl.out; omega) h hrec)
          have hun := Lib.hid (show undo1 E2 ⟨t, r, v, false⟩ = delL E2 (t, r) by simp [undo1, hrec])
          go_wp2_with fail
          refine (HP.out _ _ hB.out).mono ?_
          rintro e w5 ⟨rfl, q2⟩
          replace hB := Lib.hid q2
          clear q2 z0 z1 z2 z3 c0
          go_wp2_with fail
          go_roundg k
          case measure => omega
          case rel => exact ⟨k, undo1 E2 ⟨t, r, v, false⟩, by omega, rfl, by first | go_num | (simp; omega), by rw [hstep.out]; exact Lib.hid rfl, Lib.hid (by rw [hun.out]; exact hnd.out.del _), Lib.hid (by rw [hun.out]; have h1 := hEl.out; have h2 := delL_len E2 (t, r); omega), Lib.hid (by rw [hun.out]; exact hB.out)⟩
        | false =>
          have HP := Lib.hid (fun W rs h => rdel_no p (srtE E2) t r W rs h hrec)
          have hun := Lib.hid (show undo1 E2 ⟨t, r, v, false⟩ = E2 by simp [undo1, hrec])
          go_wp2_with fail
          refine (HP.out _ _ hB.out).mono ?_
          rintro e w5 ⟨rfl, q2⟩
          replace hB := Lib.hid q2
          clear q2 z0 z1 z2 z3 c0
          go_wp2_with fail
          go_roundg k
          case measure => omega
          case rel => exact ⟨k, undo1 E2 ⟨t, r, v, false⟩, by omega, rfl, by first | go_num | (simp; omega), by rw [hstep.out]; exact Lib.hid rfl, Lib.hid (by rw [hun.out]; exact hnd.out), Lib.hid (by rw [hun.out]; have h1 := hEl.out; omega), Lib.hid (by rw [hun.out]; exact hB.out)⟩
end Go.Proofs.Ytidbidalalajbaa
