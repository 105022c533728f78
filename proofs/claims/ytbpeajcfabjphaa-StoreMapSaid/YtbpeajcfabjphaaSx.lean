/-
  The store's contracts, the map's block put aside; what stores hold, compared. No condition beside a store that can be read.
-/
import Derived.Test.YtbpeajcfabjphaaSCl
namespace Go.Proofs.Ytbpeajcfabjphaa
open Go.RowKit
/-- A store at p that holds E. -/
def stX (p : Nat) (E : Ent) : Res := exi fun m => star (blk p 63 #[.map (some m)]) (mapr ekN evI m E)
section
variable {w w' : World} {p m : Nat} {E : Ent} {rs : List Res}
theorem stX_open (h : Sep w (stX p E :: rs)) : ∃ m, Sep w (sto p m E rs) := by
  obtain ⟨m, h⟩ := h.gexi
  exact ⟨m, Sep.gstar.1 h⟩
theorem stX_mk (h : Sep w (sto p m E rs)) : Sep w (stX p E :: rs) := Sep.exi_mk (f := fun m => star (blk p 63 #[.map (some m)]) (mapr ekN evI m E)) m (Sep.gstar.2 h)
theorem stX_nodup (h : Sep w (stX p E :: rs)) : NodupL E := by
  obtain ⟨m, h⟩ := stX_open h
  exact h.to1.map_nodup lawN
end
theorem new_x (w : World) : Calls Try.prog 8 #[] w fun e w' => ∃ p, e = .returned (.pointer (some ⟨p, 0, none⟩)) ∧ Sep w' [stX p [], old w] := by
  refine (snew_any w).mono ?_
  rintro e w' ⟨p, m, rfl, q⟩
  exact ⟨p, rfl, stX_mk q⟩
theorem put_yes (p : Nat) (E : Ent) (t r v : Int) (w : World) (rs : List Res) (hS : Sep w (stX p E :: rs)) (h : isRec (t, r) = true) :
    Calls Try.prog 9 #[.pointer (some ⟨p, 0, none⟩), (.agg #[.int .i64 t, .int .i64 r]), .int .i64 v] w fun e w' => e = .returned (.tuple #[wasV t r E, .int .i64 0]) ∧ Sep w' (stX p (putL E (t, r) v) :: rs) := by
  obtain ⟨m, hS⟩ := stX_open hS
  exact (put_good p m E t r v w rs hS h).mono fun e w' ⟨he, q⟩ => ⟨he, stX_mk q⟩
theorem put_no (p : Nat) (E : Ent) (t r v : Int) (w : World) (rs : List Res) (hS : Sep w (stX p E :: rs)) (h : isRec (t, r) = false) :
    Calls Try.prog 9 #[.pointer (some ⟨p, 0, none⟩), (.agg #[.int .i64 t, .int .i64 r]), .int .i64 v] w fun e w' => e = .returned (.tuple #[was0, .int .i64 2]) ∧ Sep w' (stX p E :: rs) := by
  obtain ⟨m, hS⟩ := stX_open hS
  exact (put_bad p m E t r v w rs hS h).mono fun e w' ⟨he, q⟩ => ⟨he, stX_mk q⟩
theorem del_yes (p : Nat) (E : Ent) (t r : Int) (w : World) (rs : List Res) (hS : Sep w (stX p E :: rs)) (h : isRec (t, r) = true) :
    Calls Try.prog 14 #[.pointer (some ⟨p, 0, none⟩), (.agg #[.int .i64 t, .int .i64 r])] w fun e w' => e = .returned (.tuple #[wasV t r E, .int .i64 0]) ∧ Sep w' (stX p (delL E (t, r)) :: rs) := by
  obtain ⟨m, hS⟩ := stX_open hS
  exact (del_good p m E t r w rs hS h).mono fun e w' ⟨he, q⟩ => ⟨he, stX_mk q⟩
theorem del_no (p : Nat) (E : Ent) (t r : Int) (w : World) (rs : List Res) (hS : Sep w (stX p E :: rs)) (h : isRec (t, r) = false) :
    Calls Try.prog 14 #[.pointer (some ⟨p, 0, none⟩), (.agg #[.int .i64 t, .int .i64 r])] w fun e w' => e = .returned (.tuple #[was0, .int .i64 2]) ∧ Sep w' (stX p E :: rs) := by
  obtain ⟨m, hS⟩ := stX_open hS
  exact (del_bad p m E t r w rs hS h).mono fun e w' ⟨he, q⟩ => ⟨he, stX_mk q⟩
theorem get_x (p : Nat) (E : Ent) (t r : Int) (w : World) (rs : List Res) (hS : Sep w (stX p E :: rs)) :
    Calls Try.prog 18 #[.pointer (some ⟨p, 0, none⟩), (.agg #[.int .i64 t, .int .i64 r])] w fun e w' => e = .returned (.tuple #[.int .i64 ((getL E (t, r)).getD 0), .bool (hasL E (t, r))]) ∧ Sep w' (stX p E :: rs) := by
  obtain ⟨m, hS⟩ := stX_open hS
  exact (get_any p m E t r w rs hS).mono fun e w' ⟨he, q⟩ => ⟨he, stX_mk q⟩
theorem all_x (p : Nat) (E : Ent) (w : World) (rs : List Res) (hS : Sep w (stX p E :: rs)) (hE : E.length ≤ 1000) :
    Calls Try.prog 13 #[.pointer (some ⟨p, 0, none⟩)] w fun e w' => ∃ (a : Option Addr) (c : Nat), e = .returned (.slice a (srtE E).length c) ∧ Sep w' (vec 39 3 (.slice a (srtE E).length c) (srtE E).length ((srtE E).flatMap rowC) :: stX p E :: rs) := by
  obtain ⟨m, hS⟩ := stX_open hS
  exact (all_any p m E w rs hS hE).mono fun e w' ⟨a, c, he, q⟩ => ⟨a, c, he, (stX_mk (show Sep w' (sto p m E (_ :: rs)) from ((show Sep w' (_ :: _ :: _ :: rs) from q).to2).to2)).to1⟩
theorem clone_x (p : Nat) (E : Ent) (w : World) (rs : List Res) (hS : Sep w (stX p E :: rs)) :
    Calls Try.prog 24 #[.pointer (some ⟨p, 0, none⟩)] w fun e w' => ∃ p', e = .returned (.pointer (some ⟨p', 0, none⟩)) ∧ Sep w' (stX p' E :: stX p E :: rs) := by
  obtain ⟨m, hS⟩ := stX_open hS
  exact (sclone_any p m E w rs hS).mono fun e w' ⟨p', m', he, q⟩ => ⟨p', he, (stX_mk (show Sep w' (sto p m E (stX p' E :: rs)) from (show Sep w' (_ :: _ :: _ :: rs) from stX_mk q).to2.to2)).to1⟩
theorem len_x (p : Nat) (E : Ent) (w : World) (rs : List Res) (hS : Sep w (stX p E :: rs)) (hE : E.length ≤ 1000) :
    Calls Try.prog 20 #[.pointer (some ⟨p, 0, none⟩)] w fun e w' => e = .returned (.int .i64 (srtE E).length) ∧ Sep w' (stX p E :: rs) := by
  obtain ⟨m, hS⟩ := stX_open hS
  exact (slen_any p m E w rs hS hE).mono fun e w' ⟨he, q⟩ => ⟨he, stX_mk q⟩
theorem same_x (p p' : Nat) (E E' : Ent) (w : World) (rs : List Res) (hS : Sep w (stX p E :: stX p' E' :: rs)) (hE : E.length ≤ 1000) (hE' : E'.length ≤ 1000) :
    Calls Try.prog 11 #[.pointer (some ⟨p, 0, none⟩), .pointer (some ⟨p', 0, none⟩)] w fun e w' => e = .returned (.bool (decide (srtE E = srtE E'))) ∧ Sep w' (stX p E :: stX p' E' :: rs) := by
  obtain ⟨m, hS⟩ := stX_open hS
  obtain ⟨m', hS⟩ := stX_open (show Sep w (stX p' E' :: blk p 63 #[.map (some m)] :: mapr ekN evI m E :: rs) from (show Sep w (_ :: _ :: stX p' E' :: rs) from hS).to2)
  exact (ssame_any p m p' m' E E' w rs (show Sep w (sto p m E (sto p' m' E' rs)) from (show Sep w (_ :: _ :: _ :: _ :: rs) from hS).to3.to3) hE hE').mono fun e w' ⟨he, q⟩ => ⟨he, (stX_mk (show Sep w' (sto p m E (stX p' E' :: rs)) from (show Sep w' (_ :: _ :: _ :: rs) from stX_mk (show Sep w' (sto p' m' E' (_ :: _ :: rs)) from (show Sep w' (_ :: _ :: _ :: _ :: rs) from q).to3.to3)).to2.to2))⟩
/-! ### what stores hold -/
def eqvE (E E' : Ent) : Prop := ∀ k, getL E k = getL E' k
theorem srtE_congr {E E' : Ent} (h1 : NodupL E) (h2 : NodupL E') (h : eqvE E E') : srtE E = srtE E' := by
  refine srtE_uniq h2 ((srtE_perm E).trans ?_) (srtE_pw E)
  have n1 : E.Nodup := by unfold NodupL at h1; rw [List.Nodup, List.pairwise_map] at h1; exact h1.imp fun h e => h (by rw [e])
  have n2 : E'.Nodup := by unfold NodupL at h2; rw [List.Nodup, List.pairwise_map] at h2; exact h2.imp fun h e => h (by rw [e])
  refine (List.perm_ext_iff_of_nodup n1 n2).2 fun p => ?_
  rw [← getL_some_iff h1 (a := p.1) (v := p.2), ← getL_some_iff h2 (a := p.1) (v := p.2), h p.1]
theorem eqvE.putL {E E' : Ent} (h : eqvE E E') (a : Int × Int) (v : Int) : eqvE (putL E a v) (putL E' a v) := fun k => by rw [getL_putL, getL_putL, h k]
theorem eqvE.delL {E E' : Ent} (h : eqvE E E') (a : Int × Int) : eqvE (delL E a) (delL E' a) := fun k => by rw [getL_delL, getL_delL, h k]
theorem eqvE.trans {A B C : Ent} (h : eqvE A B) (k : eqvE B C) : eqvE A C := fun x => (h x).trans (k x)
theorem putL_len (E : Ent) (a : Int × Int) (v : Int) : (putL E a v).length ≤ E.length + 1 := by
  unfold Go.Proofs.Ytbpeajcfabjphaa.putL
  split
  · rw [List.length_map]; omega
  · rw [List.length_append]; exact Nat.le_refl _
theorem delL_len (E : Ent) (a : Int × Int) : (delL E a).length ≤ E.length := List.length_filter_le _ _
end Go.Proofs.Ytbpeajcfabjphaa
