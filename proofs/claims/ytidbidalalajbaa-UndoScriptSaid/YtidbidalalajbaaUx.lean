/-
  The log's contracts, its slice put aside; what undoing does to what a store holds; how acts come in. No condition beside a log and a store that can be read.
-/
import Derived.Test.YtidbidalalajbaaSx
import Derived.Test.YtidbidalalajbaaBkC
import Derived.Test.YtidbidalalajbaaFlat
namespace Go.Proofs.Ytidbidalalajbaa
open Go.RowKit Go.ChangeShapes Go.WideShapes Go.Deep
/-- A log at q that holds L. -/
def lgX (q : Nat) (L : List Wa) : Res := exi fun p : Option Addr × Nat => star (blk q 70 #[.slice p.1 L.length p.2]) (vec 31 4 (.slice p.1 L.length p.2) L.length (wacells L))
section
variable {w w' : World} {p q : Nat} {E : Ent} {L : List Wa} {rs : List Res}
theorem lgX_open (h : Sep w (lgX q L :: rs)) : ∃ sa sc, Sep w (lg q sa sc L rs) := by
  obtain ⟨⟨sa, sc⟩, h⟩ := h.gexi
  exact ⟨sa, sc, Sep.gstar.1 h⟩
theorem lgX_mk {sa : Option Addr} {sc : Nat} (h : Sep w (lg q sa sc L rs)) : Sep w (lgX q L :: rs) := Sep.exi_mk (f := fun p : Option Addr × Nat => star (blk q 70 #[.slice p.1 L.length p.2]) (vec 31 4 (.slice p.1 L.length p.2) L.length (wacells L))) (sa, sc) (Sep.gstar.2 h)
end
theorem lnew_x (w : World) : Calls Try.prog 9 #[] w fun e w' => ∃ q, e = .returned (.pointer (some ⟨q, 0, none⟩)) ∧ Sep w' [lgX q [], old w] := by
  refine (lnew_any w).mono ?_
  rintro e w' ⟨q, rfl, h⟩
  exact ⟨q, rfl, lgX_mk h⟩
def wasW (E : Ent) (t r : Int) : Wa := ⟨t, r, (getL E (t, r)).getD 0, hasL E (t, r)⟩
theorem note_yes (q : Nat) (L : List Wa) (x : Wa) (w : World) (rs : List Res) (hS : Sep w (lgX q L :: rs)) (h : isRec (x.t, x.r) = true) (hn : L.length ≤ 1000) :
    Calls Try.prog 12 #[.pointer (some ⟨q, 0, none⟩), x.val] w fun e w' => e = .returned (.int .i64 0) ∧ Sep w' (lgX q (L ++ [x]) :: rs) := by
  obtain ⟨sa, sc, hS⟩ := lgX_open hS
  exact (note_good q sc sa L x w rs hS h hn).mono fun e w' ⟨na, nc, he, hq⟩ => ⟨he, lgX_mk hq⟩
theorem llen_x (q : Nat) (L : List Wa) (w : World) (rs : List Res) (hS : Sep w (lgX q L :: rs)) (hn : L.length ≤ 1000) :
    Calls Try.prog 19 #[.pointer (some ⟨q, 0, none⟩)] w fun e w' => e = .returned (.int .i64 L.length) ∧ Sep w' (lgX q L :: rs) := by
  obtain ⟨sa, sc, hS⟩ := lgX_open hS
  exact (len_any q sc sa L w rs hS hn).mono fun e w' ⟨he, hq⟩ => ⟨he, lgX_mk hq⟩
theorem llist_x (q : Nat) (L : List Wa) (w : World) (rs : List Res) (hS : Sep w (lgX q L :: rs)) (hn : L.length ≤ 1000) :
    Calls Try.prog 14 #[.pointer (some ⟨q, 0, none⟩)] w fun e w' => ∃ a c, e = .returned (.slice a L.length c) ∧ Sep w' (vec 31 4 (.slice a L.length c) L.length (wacells L) :: lgX q L :: rs) := by
  obtain ⟨sa, sc, hS⟩ := lgX_open hS
  exact (list_any q sc sa L w rs hS hn).mono fun e w' ⟨a, c, he, hq⟩ => ⟨a, c, he, (lgX_mk (show Sep w' (lg q sa sc L (_ :: rs)) from (show Sep w' (_ :: _ :: _ :: rs) from hq).to2.to2)).to1⟩
theorem lclear_x (q : Nat) (L : List Wa) (w : World) (rs : List Res) (hS : Sep w (lgX q L :: rs)) (hn : L.length ≤ 1000) :
    Calls Try.prog 17 #[.pointer (some ⟨q, 0, none⟩)] w fun e w' => e = .returned (.int .i64 L.length) ∧ Sep w' (lgX q [] :: rs) := by
  obtain ⟨sa, sc, hS⟩ := lgX_open hS
  exact (clear_any q sc sa L w rs hS hn).mono fun e w' ⟨he, hq⟩ => ⟨he, lgX_mk hq⟩
def undoA (L : List Wa) (E : Ent) : Ent := L.reverse.foldl undo1 E
theorem back_x (p q : Nat) (E : Ent) (L : List Wa) (w : World) (rs : List Res) (hS : Sep w (stX p E :: lgX q L :: rs)) (hn : L.length ≤ 1000) :
    Calls Try.prog 15 #[.pointer (some ⟨q, 0, none⟩), .pointer (some ⟨p, 0, none⟩)] w fun e w' => e = .returned (.tuple #[.int .i64 L.length, .int .i64 0]) ∧ Sep w' (stX p (undoA L E) :: lgX q [] :: rs) := by
  obtain ⟨sa, sc, hS⟩ := lgX_open hS.to1
  obtain ⟨m, hS⟩ := stX_open (show Sep w (stX p E :: _ :: _ :: rs) from (show Sep w (_ :: _ :: stX p E :: rs) from hS).to2)
  exact (back_any p m q sc sa E L w rs hS hn).mono fun e w' ⟨he, h⟩ => ⟨he, stX_mk (show Sep w' (sto p m (undoA L E) (lgX q [] :: rs)) from (show Sep w' (_ :: _ :: _ :: rs) from lgX_mk (show Sep w' (lg q none 0 [] (_ :: _ :: rs)) from (show Sep w' (_ :: _ :: _ :: _ :: rs) from h).to3.to3)).to2.to2)⟩
/-! ### undoing -/
theorem undoA_snoc (L : List Wa) (x : Wa) (E : Ent) : undoA (L ++ [x]) E = undoA L (undo1 E x) := by
  unfold undoA
  rw [List.reverse_append]
  rfl
theorem undoA_append (L M : List Wa) (E : Ent) : undoA (L ++ M) E = undoA L (undoA M E) := by
  unfold undoA
  rw [List.reverse_append, List.foldl_append]
theorem undo1_congr {E E' : Ent} (h : eqvE E E') (x : Wa) : eqvE (undo1 E x) (undo1 E' x) := by
  unfold undo1
  split
  · split
    · exact h.putL _ _
    · exact h.delL _
  · exact h
theorem fold_congr : ∀ (L : List Wa) {E E' : Ent}, eqvE E E' → eqvE (L.foldl undo1 E) (L.foldl undo1 E')
  | [], _, _, h => h
  | x :: L, _, _, h => fold_congr L (undo1_congr h x)
theorem undoA_congr (L : List Wa) {E E' : Ent} (h : eqvE E E') : eqvE (undoA L E) (undoA L E') := fold_congr _ h
theorem undo_one {E E' : Ent} {t r : Int} (hr : isRec (t, r) = true) (h : ∀ k, k ≠ (t, r) → getL E' k = getL E k) : eqvE (undo1 E' (wasW E t r)) E := by
  intro k
  unfold undo1 wasW
  simp only [hr, if_true]
  by_cases hh : hasL E (t, r) = true
  · rw [if_pos hh, getL_putL]
    by_cases hk : k = (t, r)
    · subst hk
      rw [if_pos rfl]
      rw [← getL_isSome] at hh
      obtain ⟨v, hv⟩ := Option.isSome_iff_exists.1 hh
      rw [hv]
      rfl
    · rw [if_neg hk, h k hk]
  · rw [if_neg hh, getL_delL]
    by_cases hk : k = (t, r)
    · subst hk
      rw [if_pos rfl, getL_none_iff.2 (by simpa using hh)]
    · rw [if_neg hk, h k hk]
theorem undo_put {E E0 : Ent} {L : List Wa} {t r : Int} (v : Int) (hr : isRec (t, r) = true) (h : eqvE (undoA L E) E0) : eqvE (undoA (L ++ [wasW E t r]) (putL E (t, r) v)) E0 := by
  rw [undoA_snoc]
  exact (undoA_congr L (undo_one hr fun k hk => by rw [getL_putL, if_neg hk])).trans h
theorem undo_del {E E0 : Ent} {L : List Wa} {t r : Int} (hr : isRec (t, r) = true) (h : eqvE (undoA L E) E0) : eqvE (undoA (L ++ [wasW E t r]) (delL E (t, r))) E0 := by
  rw [undoA_snoc]
  exact (undoA_congr L (undo_one hr fun k hk => by rw [getL_delL, if_neg hk])).trans h
theorem undo1_len (E : Ent) (x : Wa) : (undo1 E x).length ≤ E.length + 1 := by
  unfold undo1
  split
  · split
    · exact putL_len _ _ _
    · have := delL_len E (x.t, x.r); omega
  · omega
theorem fold_len : ∀ (L : List Wa) (E : Ent), (L.foldl undo1 E).length ≤ E.length + L.length
  | [], _ => Nat.le_refl _
  | x :: L, E => by
    have h1 := fold_len L (undo1 E x)
    have h2 := undo1_len E x
    simp only [List.foldl_cons, List.length_cons]
    omega
theorem undoA_len (L : List Wa) (E : Ent) : (undoA L E).length ≤ E.length + L.length := by
  have := fold_len L.reverse E
  rw [List.length_reverse] at this
  exact this
/-! ### acts -/
structure Ac where
  kind : Int
  t : Int
  r : Int
  v : Int
  wa : Wa
  deriving DecidableEq, Inhabited
def Ac.cells (x : Ac) : List Value := [.int .i64 x.kind, .int .i64 x.t, .int .i64 x.r, .int .i64 x.v, .int .i64 x.wa.t, .int .i64 x.wa.r, .int .i64 x.wa.v, .bool x.wa.there]
theorem ac_len (x : Ac) : x.cells.length = 8 := rfl
def accells (L : List Ac) : List Value := L.flatMap Ac.cells
theorem act_leaves : leaves Try.prog 5 51 = some [true, true, true, true, true, true, true, false] := by kernel_rfl
theorem act_cellsOf : Try.prog.cellsOf 51 = 8 := by kernel_rfl
theorem leafB_int {v : Value} (h : leafB true v) : ∃ n, v = .int .i64 n := ⟨h.choose, h.choose_spec.1⟩
theorem leafB_bool {v : Value} (h : leafB false v) : ∃ n, v = .bool n := h
theorem act_of (cs : List Value) (h : Leafs [true, true, true, true, true, true, true, false] cs) : ∃ e : Ac, cs = e.cells ∧ True := by
  obtain ⟨hl, hat⟩ := h
  rcases cs with _ | ⟨c0, _ | ⟨c1, _ | ⟨c2, _ | ⟨c3, _ | ⟨c4, _ | ⟨c5, _ | ⟨c6, _ | ⟨c7, _ | ⟨c8, cs⟩⟩⟩⟩⟩⟩⟩⟩⟩ <;> simp at hl
  obtain ⟨n0, rfl⟩ := leafB_int (hat 0 true c0 rfl rfl)
  obtain ⟨n1, rfl⟩ := leafB_int (hat 1 true c1 rfl rfl)
  obtain ⟨n2, rfl⟩ := leafB_int (hat 2 true c2 rfl rfl)
  obtain ⟨n3, rfl⟩ := leafB_int (hat 3 true c3 rfl rfl)
  obtain ⟨n4, rfl⟩ := leafB_int (hat 4 true c4 rfl rfl)
  obtain ⟨n5, rfl⟩ := leafB_int (hat 5 true c5 rfl rfl)
  obtain ⟨n6, rfl⟩ := leafB_int (hat 6 true c6 rfl rfl)
  obtain ⟨n7, rfl⟩ := leafB_bool (hat 7 false c7 rfl rfl)
  exact ⟨⟨n0, n1, n2, n3, ⟨n4, n5, n6, n7⟩⟩, rfl, trivial⟩
section
variable {H : Type} {enc : TypeId × Value → H} {w : World} {base : Nat} {spare : Nat → Bool} {held : Bool}
theorem flat_open_Act {a : Option Addr} {len cap : Nat} {d : DataW H} {p : List MemPlace} (h : DataW.Trod enc Try.prog w base spare held 45 (.slice a len cap) d p) :
    ∃ l : List Ac, l.length = len ∧ RL w (.slice a len cap) 8 len (accells l) ∧ cap ≤ maxLen ∧ ∀ x ∈ l, True :=
  flat_open (ev := Ac.cells) (G := fun _ => True) Try.underlying45 act_leaves act_cellsOf (by decide) ac_len act_of h
end
theorem ac_cells {w : World} {a : Option Addr} {n c : Nat} {L : List Ac} (hv : RL w (.slice a n c) 8 n (accells L)) (hn : L.length = n) (h0 : 0 < n) :
    ∃ b off, a = some ⟨b, off, none⟩ ∧ b < w.heap.size ∧ ∀ k x, L[k]? = some x → ∀ j u, (Ac.cells x)[j]? = some u → w.cell? ⟨b, off + (k * 8 + j), none⟩ = some u := by
  subst hn
  obtain ⟨b, off, c', hv', _, hb, h⟩ := RL.at_ ac_len hv h0
  injection hv' with e1 _ _
  exact ⟨b, off, e1, hb, h⟩
end Go.Proofs.Ytidbidalalajbaa
