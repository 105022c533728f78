/-
  The undo log: New, Note, List, Len, Clear. No condition beside a log that can be read.
-/
import Derived.Test.YtidbidalalajbaaStoB
import Derived.Test.YtidbidalalajbaaRL
namespace Go.Proofs.Ytidbidalalajbaa
open Go.RowKit
structure Wa where
  t : Int
  r : Int
  v : Int
  there : Bool
  deriving DecidableEq, Inhabited
def Wa.cells (x : Wa) : List Value := [.int .i64 x.t, .int .i64 x.r, .int .i64 x.v, .bool x.there]
def Wa.val (x : Wa) : Value := .agg #[.int .i64 x.t, .int .i64 x.r, .int .i64 x.v, .bool x.there]
theorem wa_len (x : Wa) : x.cells.length = 4 := rfl
def wacells (L : List Wa) : List Value := L.flatMap Wa.cells
theorem wacells_len (L : List Wa) : (wacells L).length = L.length * 4 := flat_len Wa.cells 4 wa_len L
theorem wacells_one (L : List Wa) : ∀ u ∈ wacells L, u.oneCell' = true := by
  intro u hu
  unfold wacells at hu
  obtain ⟨x, _, hx⟩ := List.mem_flatMap.1 hu
  simp [Wa.cells] at hx
  rcases hx with rfl | rfl | rfl | rfl <;> rfl
theorem wacells_snoc (L : List Wa) (x : Wa) : wacells (L ++ [x]) = wacells L ++ x.cells := by unfold wacells; rw [List.flatMap_append]; simp
theorem info_was : (Try.prog.info? 31).map (fun i => (i.zero, i.size, i.bytes)) = some (some (.agg #[.int .i64 0, .int .i64 0, .int .i64 0, .bool false]), 4, 32) := by kernel_rfl
/-- A log at p. -/
def lg (p : Nat) (sa : Option Addr) (sc : Nat) (L : List Wa) (rs : List Res) : List Res := blk p 70 #[.slice sa L.length sc] :: vec 31 4 (.slice sa L.length sc) L.length (wacells L) :: rs
theorem lnew_any (w : World) : Calls Try.prog 9 #[] w fun r w' => ∃ p, r = .returned (.pointer (some ⟨p, 0, none⟩)) ∧ Sep w' (lg p none 0 [] [old w]) := by
  have h0 := Lib.hid (((Sep.start w).alloc #[.slice none 0 0] 70).vec_nil 31 4).to1
  go_enter Try.func9, Try.ntmps9
  go_wp2_with fail
  go_ret
  exact ⟨_, rfl, h0⟩
theorem note_nil (x : Wa) (w : World) : Calls Try.prog 12 #[.pointer none, x.val] w fun e w' => e = .returned (.int .i64 1) ∧ Below w.heap.size w w' := by
  obtain ⟨t, r, v, there⟩ := x
  unfold Wa.val
  simp only
  go_enter Try.func12, Try.ntmps12
  go_wp2_with fail
  go_ret
  exact ⟨rfl, (Below.refl _ _).alloc (Nat.le_refl _) _⟩
theorem note_bad (p : Nat) (x : Wa) (w : World) (h : isRec (x.t, x.r) = false) : Calls Try.prog 12 #[.pointer (some ⟨p, 0, none⟩), x.val] w fun e w' => e = .returned (.int .i64 2) ∧ Below w.heap.size w w' := by
  obtain ⟨t, r, v, there⟩ := x
  obtain ⟨h1, h2⟩ := rec_no h
  have HL := Lib.hid (fun W => level_any t r W)
  have hB := Lib.hid ((Sep.start w).alloc #[.int .i64 t, .int .i64 r, .int .i64 v, .bool there] 31)
  unfold Wa.val
  simp only at h1 h2 ⊢
  clear h
  generalize lv t r = y at *
  go_enter Try.func12, Try.ntmps12
  go_wp2_with fail
  refine (HL.out _).mono ?_
  rintro e w1 ⟨rfl, q⟩
  replace hB := Lib.hid (hB.out.below q)
  clear q HL
  go_wp2_with fail
  go_ret
  exact ⟨rfl, hB.out.tail.gold⟩
theorem srcA_cells (w : World) (cs : Array Value) (t : TypeId) (c sz : Nat) (hz : cs.size = sz) : SrcA (w.alloc (.cells cs t)) sz (.slice (some ⟨w.heap.size, 0, none⟩) 1 c) 1 cs.toList := by
  refine .inr ⟨_, _, rfl, by simp [hz], fun j u hu => ?_⟩
  have h := ((Sep.start w).alloc cs t).gblk.cell j
  rw [Addr.add_lit, Nat.zero_add]
  rw [h, ← hu]
  simp
set_option maxHeartbeats 4000000 in
set_option maxRecDepth 100000 in
theorem note_cells (p n sc : Nat) (sa : Option Addr) (ss : List Value) (x : Wa) (w : World) (rs : List Res) (hS : Sep w (blk p 70 #[.slice sa n sc] :: vec 31 4 (.slice sa n sc) n ss :: rs)) (h : isRec (x.t, x.r) = true) (hn : n ≤ 1000) :
    Calls Try.prog 12 #[.pointer (some ⟨p, 0, none⟩), x.val] w fun e w' => ∃ na nc, e = .returned (.int .i64 0) ∧ Sep w' (blk p 70 #[.slice na (n + 1) nc] :: vec 31 4 (.slice na (n + 1) nc) (n + 1) (ss ++ x.cells) :: rs) := by
  obtain ⟨t, r, v, there⟩ := x
  have h1 := rec_yes h
  have HL := Lib.hid (fun W => level_any t r W)
  rw [h1] at HL
  have hB := Lib.hid (show Sep _ (blk p 70 #[.slice sa n sc] :: vec 31 4 (.slice sa n sc) n ss :: blk w.heap.size 31 #[.int .i64 t, .int .i64 r, .int .i64 v, .bool there] :: rs) from (hS.alloc #[.int .i64 t, .int .i64 r, .int .i64 v, .bool there] 31).to2.to2)
  replace hn := Lib.hid hn
  obtain ⟨i0, hi0, hz0, hz1, hz2⟩ := info_parts info_was
  have h1c : Hid (∀ u ∈ ([.int .i64 t, .int .i64 r, .int .i64 v, .bool there] : List Value), u.oneCell' = true) := Lib.hid (by simp [Value.oneCell'])
  unfold Wa.val Wa.cells
  simp only
  clear hS h h1
  go_enter Try.func12, Try.ntmps12
  go_wp2_with fail
  refine (HL.out _).mono ?_
  rintro e w1 ⟨rfl, q⟩
  replace hB := Lib.hid (hB.out.below q)
  clear q HL
  go_wp2_with fail
  replace hB := Lib.hid hB.out.drew
  have hS := Lib.hid (show (fun W : World => ∃ u m cs, Sep W (blk p 70 #[.slice sa n sc] :: vec 31 4 u m cs :: blk w.heap.size 31 #[.int .i64 t, .int .i64 r, .int .i64 v, .bool there] :: rs)) _ from ⟨_, _, _, hB.out⟩)
  refine hx_begin (fun W : World => ∃ u m cs, Sep W (blk p 70 #[.slice sa n sc] :: vec 31 4 u m cs :: blk w.heap.size 31 #[.int .i64 t, .int .i64 r, .int .i64 v, .bool there] :: rs)) 10 [(0, true), (1, true), (2, true), (3, true), (4, true), (5, true), (6, false), (7, false), (8, true), (9, true), (10, false)] [(9, 10), (7, 10), (0, 10), (1, 10), (2, 10), (3, 10), (4, 10), (5, 10), (6, 10), (8, 9)] (by kernel_rfl) (by kernel_rfl) (by kernel_rfl) (by kernel_rfl) rfl (by kernel_rfl) (by kernel_rfl) (fun _ _ _ _ _ h => h) hS.out ?_
  change HX _ _ _ _ _ _ _ (World.drew _)
  generalize World.drew _ = wd at *
  refine hx_take ?v1 rfl (by kernel_rfl) ?y1 ?z1
  case y1 => intro W hW; skip; replace hW := Lib.hid hW; go_simp; try rfl
  case z1 =>
  simp only [Act.put, List.setIfInBounds_toArray, List.set_cons_succ, List.set_cons_zero, List.getElem_toArray, List.getElem_cons_zero, List.getElem_cons_succ]
  refine hx_take ?v2 rfl (by kernel_rfl) ?y2 ?z2
  case y2 => intro W hW; skip; replace hW := Lib.hid hW; go_simp; try rfl
  case z2 =>
  simp only [Act.put, List.setIfInBounds_toArray, List.set_cons_succ, List.set_cons_zero, List.getElem_toArray, List.getElem_cons_zero, List.getElem_cons_succ]
  refine hx_take ?v3 rfl (by kernel_rfl) ?y3 ?z3
  case y3 => intro W hW; skip; replace hW := Lib.hid hW; go_simp; try rfl
  case z3 =>
  simp only [Act.put, List.setIfInBounds_toArray, List.set_cons_succ, List.set_cons_zero, List.getElem_toArray, List.getElem_cons_zero, List.getElem_cons_succ]
  refine hx_take ?v4 rfl (by kernel_rfl) ?y4 ?z4
  case y4 => intro W hW; skip; replace hW := Lib.hid hW; go_simp; try rfl
  case z4 =>
  simp only [Act.put, List.setIfInBounds_toArray, List.set_cons_succ, List.set_cons_zero, List.getElem_toArray, List.getElem_cons_zero, List.getElem_cons_succ]
  refine hx_take ?v5 rfl (by kernel_rfl) ?y5 ?z5
  case y5 => intro W hW; obtain ⟨_, _, _, hW⟩ := hW; obtain ⟨_, c0, _⟩ := hW.b1; obtain ⟨_, d0, d1, d2, d3, _⟩ := hW.to2.b4; replace hW := Lib.hid hW; go_simp; try rfl
  case z5 =>
  simp only [Act.put, List.setIfInBounds_toArray, List.set_cons_succ, List.set_cons_zero, List.getElem_toArray, List.getElem_cons_zero, List.getElem_cons_succ]
  refine hx_take ?v6 rfl (by kernel_rfl) ?y6 ?z6
  case y6 => intro W hW; obtain ⟨_, _, _, hW⟩ := hW; obtain ⟨_, c0, _⟩ := hW.b1; obtain ⟨_, d0, d1, d2, d3, _⟩ := hW.to2.b4; replace hW := Lib.hid hW; go_simp; try rfl
  case z6 =>
  simp only [Act.put, List.setIfInBounds_toArray, List.set_cons_succ, List.set_cons_zero, List.getElem_toArray, List.getElem_cons_zero, List.getElem_cons_succ]
  refine hx_one (by decide) rfl (by kernel_rfl) (fun K hK => ?_)
  go_simp
  replace hB := Lib.hid (hB.out.allocG (.cells #[.int .i64 t, .int .i64 r, .int .i64 v, .bool there] 31))
  have hsrc := Lib.hid (srcA_cells wd #[.int .i64 t, .int .i64 r, .int .i64 v, .bool there] 31 1 4 rfl)
  refine hK.out _ _ ⟨_, _, _, hB.out⟩ ?_
  clear hK K
  try simp only [Act.put, List.setIfInBounds_toArray, List.set_cons_succ, List.set_cons_zero, List.getElem_toArray, List.getElem_cons_zero, List.getElem_cons_succ]
  refine hx_one (by decide) rfl (by kernel_rfl) (fun K hK => ?_)
  refine wp_append_sep hB.out.to1 (.tmp 17) (.tmp 19) 37 (by rfl) i0 _ 32 Try.underlying37 hi0 hz0 hz1 hz2 rfl (by decide) (by rfl) 1 [.int .i64 t, .int .i64 r, .int .i64 v, .bool there] (by exact hsrc.out) h1c.out ?c901 ?d901 ?_
  case c901 => have := hn.out; simp only [maxLen]; omega
  case d901 => have := hn.out; omega
  intro na nc w1 q
  replace hB := Lib.hid (show Sep _ _ from q.to1)
  clear q hsrc
  refine hK.out _ _ ⟨_, _, _, hB.out⟩ ?_
  clear hK K
  try simp only [Act.put, List.setIfInBounds_toArray, List.set_cons_succ, List.set_cons_zero, List.getElem_toArray, List.getElem_cons_zero, List.getElem_cons_succ]
  refine hx_take ?v7 rfl (by kernel_rfl) ?y7 ?z7
  case y7 => intro W hW; skip; replace hW := Lib.hid hW; go_simp; try rfl
  case z7 =>
  simp only [Act.put, List.setIfInBounds_toArray, List.set_cons_succ, List.set_cons_zero, List.getElem_toArray, List.getElem_cons_zero, List.getElem_cons_succ]
  refine hx_take ?v8 rfl (by kernel_rfl) ?y8 ?z8
  case y8 => intro W hW; skip; replace hW := Lib.hid hW; go_simp; try rfl
  case z8 =>
  simp only [Act.put, List.setIfInBounds_toArray, List.set_cons_succ, List.set_cons_zero, List.getElem_toArray, List.getElem_cons_zero, List.getElem_cons_succ]
  refine hx_last rfl (by kernel_rfl) (fun K hK => ?_)
  obtain ⟨_, y0, f0⟩ := hB.out.b1
  go_simp
  replace hB := Lib.hid (hB.out.set 0 (.slice na (n + 1) nc))
  refine hK.out _ _ ?_
  clear hK K
  try simp only [Act.put, List.setIfInBounds_toArray, List.set_cons_succ, List.set_cons_zero, List.getElem_toArray, List.getElem_cons_zero, List.getElem_cons_succ]
  refine hx_done ?_
  clear hS
  go_wp2_with fail
  go_ret
  exact ⟨na, nc, rfl, hB.out.to2.tail⟩
theorem note_good (p sc : Nat) (sa : Option Addr) (L : List Wa) (x : Wa) (w : World) (rs : List Res) (hS : Sep w (lg p sa sc L rs)) (h : isRec (x.t, x.r) = true) (hn : L.length ≤ 1000) :
    Calls Try.prog 12 #[.pointer (some ⟨p, 0, none⟩), x.val] w fun e w' => ∃ na nc, e = .returned (.int .i64 0) ∧ Sep w' (lg p na nc (L ++ [x]) rs) := by
  refine (note_cells p L.length sc sa _ x w rs hS h hn).mono ?_
  rintro e w' ⟨na, nc, rfl, q⟩
  refine ⟨na, nc, rfl, ?_⟩
  unfold lg
  rw [List.length_append, wacells_snoc]
  exact q
/-- A copy of records. -/
theorem clone_any (v : Value) (L : List Wa) (w : World) (hv : RL w v 4 L.length (wacells L)) (hl : L.length ≤ 1000) :
    Calls Try.prog 38 #[v] w fun e w' => ∃ a c, e = .returned (.slice a L.length c) ∧ Sep w' [vec 31 4 (.slice a L.length c) L.length (wacells L), old w] := by
  obtain ⟨n, hn⟩ : ∃ n, L.length = n := ⟨_, rfl⟩
  rw [hn] at hv hl ⊢
  replace hn := Lib.hid hn
  have hsrc := hv.srcA
  obtain ⟨hlen, a, c, rfl, hc, hna, hr⟩ := hv
  cases a with
  | none =>
    have hc0 := hna rfl
    subst hc0
    have hn0 : n = 0 := by omega
    subst hn0
    have hL : wacells L = [] := List.eq_nil_of_length_eq_zero (by simpa using hlen)
    rw [hL]
    clear hL hna hr hsrc hlen hc
    have heq := Lib.run_eql_slice_nil (P := Try.prog)
    go_enter Try.func38, Try.ntmps38
    go_wp2_with fail
    go_ret
    exact ⟨none, 0, rfl, (Sep.start w).vec_nil _ _⟩
  | some ad =>
    have h1 := Lib.hid (wacells_one L)
    obtain ⟨i0, hi, hz0, hz1, hz2⟩ := info_parts info_was
    have hE := Lib.hid ((Sep.start w).vec_new (World.ownsRow_made w (e := 31) (size := 4) #[] 0 (Nat.le_refl _) (Nat.zero_le _) rfl) ((Below.refl _ _).alloc (Nat.le_refl _) (.cells #[] 31)))
    have hS2 := Lib.hid (show SrcA (w.alloc (.cells #[] 31)) 4 (.slice (some ad) n c) n (wacells L) from hsrc.below ((Below.refl _ _).alloc (Nat.le_refl _) _))
    clear hsrc hr hna hlen
    have heq := Lib.run_eql_slice_nil (P := Try.prog)
    go_enter Try.func38, Try.ntmps38
    go_wp2_with (at_builtin; refine wpList_append_sep hE.out rfl _ _ 37 rfl i0 _ 32 Try.underlying37 hi hz0 hz1 hz2 rfl (by decide) rfl n (wacells L) hS2.out h1.out ?c3 ?c4 ?_)
    case c3 => simp only [maxLen]; omega
    case c4 => omega
    intro a' c' w1 hS1
    try simp only [Nat.zero_add, List.nil_append] at hS1
    replace hS1 := Lib.hid hS1
    go_wp2_with fail
    go_ret
    exact ⟨a', c', by simp, hS1.out⟩
theorem list_nil (w : World) : Calls Try.prog 14 #[.pointer none] w fun e w' => e = .returned (.slice none 0 0) ∧ w = w' := by
  go_enter Try.func14, Try.ntmps14
  go_wp2_with fail
  go_ret
  exact ⟨rfl, rfl⟩
theorem list_any (p sc : Nat) (sa : Option Addr) (L : List Wa) (w : World) (rs : List Res) (hS : Sep w (lg p sa sc L rs)) (hn : L.length ≤ 1000) :
    Calls Try.prog 14 #[.pointer (some ⟨p, 0, none⟩)] w fun e w' => ∃ a c, e = .returned (.slice a L.length c) ∧ Sep w' (vec 31 4 (.slice a L.length c) L.length (wacells L) :: lg p sa sc L rs) := by
  have HC := Lib.hid (clone_any (.slice sa L.length sc) L w hS.to1.vec_rl hn)
  obtain ⟨_, c0, _⟩ := hS.b1
  replace hS := Lib.hid hS
  generalize hm : L.length = m at *
  replace hm := Lib.hid hm
  go_enter Try.func14, Try.ntmps14
  go_wp2_with fail
  refine HC.out.mono ?_
  rintro e w1 ⟨a, c, rfl, q⟩
  replace q := Lib.hid (q.graft hS.out)
  go_wp2_with fail
  go_ret
  exact ⟨a, c, rfl, q.out⟩
theorem len_nil (w : World) : Calls Try.prog 19 #[.pointer none] w fun e w' => e = .returned (.int .i64 0) ∧ w = w' := by
  go_enter Try.func19, Try.ntmps19
  go_wp2_with fail
  refine (list_nil _).mono ?_
  rintro e w1 ⟨rfl, rfl⟩
  go_wp2_with fail
  go_ret
  exact ⟨rfl, rfl⟩
theorem len_any (p sc : Nat) (sa : Option Addr) (L : List Wa) (w : World) (rs : List Res) (hS : Sep w (lg p sa sc L rs)) (hn : L.length ≤ 1000) :
    Calls Try.prog 19 #[.pointer (some ⟨p, 0, none⟩)] w fun e w' => e = .returned (.int .i64 L.length) ∧ Sep w' (lg p sa sc L rs) := by
  have HC := Lib.hid (list_any p sc sa L w rs hS hn)
  clear hS
  generalize hm : L.length = m at *
  replace hm := Lib.hid hm
  go_enter Try.func19, Try.ntmps19
  go_wp2_with fail
  refine HC.out.mono ?_
  rintro e w1 ⟨a, c, rfl, q⟩
  replace q := Lib.hid q.tail
  go_wp2_with fail
  go_ret
  exact ⟨rfl, q.out⟩
theorem clear_nil (w : World) : Calls Try.prog 17 #[.pointer none] w fun e w' => e = .returned (.int .i64 0) ∧ w = w' := by
  go_enter Try.func17, Try.ntmps17
  go_wp2_with fail
  refine (len_nil _).mono ?_
  rintro e w1 ⟨rfl, rfl⟩
  go_wp2_with fail
  go_ret
  exact ⟨rfl, rfl⟩
theorem clear_any (p sc : Nat) (sa : Option Addr) (L : List Wa) (w : World) (rs : List Res) (hS : Sep w (lg p sa sc L rs)) (hn : L.length ≤ 1000) :
    Calls Try.prog 17 #[.pointer (some ⟨p, 0, none⟩)] w fun e w' => e = .returned (.int .i64 L.length) ∧ Sep w' (lg p none 0 [] rs) := by
  have HC := Lib.hid (len_any p sc sa L w rs hS hn)
  clear hS
  generalize hm : (L.length : Int) = m at *
  replace hm := Lib.hid hm
  go_enter Try.func17, Try.ntmps17
  go_wp2_with fail
  refine HC.out.mono ?_
  rintro e w1 ⟨rfl, q⟩
  replace q := Lib.hid q
  obtain ⟨_, c0, f0⟩ := q.out.b1
  have hZ := Lib.hid ((((q.out.set 0 (.slice none 0 0)).to1.tail).vec_nil 31 4).to1)
  go_wp2_with fail
  go_ret
  exact ⟨rfl, hZ.out⟩
end Go.Proofs.Ytidbidalalajbaa
