/-
  The reference's store, its slice put aside; Scan, Clone, Rows, Get. No condition beside a store that can be read.
-/
import Derived.Test.YtbpeajcfabjphaaS23b
import Derived.Test.YtbpeajcfabjphaaSDl
namespace Go.Proofs.Ytbpeajcfabjphaa
open Go.RowKit
/-- The reference's store at p that holds L. -/
def rX (p : Nat) (L : Ent) : Res := exi fun q : Option Addr × Nat => star (blk p 59 #[.slice q.1 L.length q.2]) (vec 39 3 (.slice q.1 L.length q.2) L.length (L.flatMap rowC))
section
variable {w w' : World} {p : Nat} {L : Ent} {rs : List Res} {a : Option Addr} {c : Nat}
theorem rX_open (h : Sep w (rX p L :: rs)) : ∃ a c, Sep w (rst p a c L rs) := by
  obtain ⟨⟨a, c⟩, h⟩ := h.gexi
  exact ⟨a, c, Sep.gstar.1 h⟩
theorem rX_mk (h : Sep w (rst p a c L rs)) : Sep w (rX p L :: rs) := Sep.exi_mk (f := fun q : Option Addr × Nat => star (blk p 59 #[.slice q.1 L.length q.2]) (vec 39 3 (.slice q.1 L.length q.2) L.length (L.flatMap rowC))) (a, c) (Sep.gstar.2 h)
end
theorem rnew_x (w : World) : Calls Try.prog 25 #[] w fun e w' => ∃ p, e = .returned (.pointer (some ⟨p, 0, none⟩)) ∧ Sep w' [rX p [], old w] := by
  refine (rnew_any w).mono ?_
  rintro e w' ⟨p, rfl, q⟩
  exact ⟨p, rfl, rX_mk q⟩
theorem was_srt {E : Ent} (h : NodupL E) (t r : Int) : wasV t r (srtE E) = wasV t r E := by unfold wasV; rw [srt_get h, srt_has h]
theorem rput_yes (p : Nat) (E : Ent) (t r v : Int) (w : World) (rs : List Res) (hn : NodupL E) (hl : E.length ≤ 900) (hS : Sep w (rX p (srtE E) :: rs)) (h : isRec (t, r) = true) :
    Calls Try.prog 27 #[.pointer (some ⟨p, 0, none⟩), (.agg #[.int .i64 t, .int .i64 r]), .int .i64 v] w fun e w' => e = .returned (.tuple #[wasV t r E, .int .i64 0]) ∧ Sep w' (rX p (srtE (putL E (t, r) v)) :: rs) := by
  obtain ⟨a, c, hS⟩ := rX_open hS
  refine (putR_good p a c (srtE E) t r v w rs hS (by rw [srtE_len]; exact hl) h).mono ?_
  rintro e w' ⟨a', c', he, q⟩
  rw [was_srt hn] at he
  rw [srt_put hn] at q
  exact ⟨he, rX_mk q⟩
theorem rput_no (p : Nat) (L : Ent) (t r v : Int) (w : World) (rs : List Res) (hS : Sep w (rX p L :: rs)) (h : isRec (t, r) = false) :
    Calls Try.prog 27 #[.pointer (some ⟨p, 0, none⟩), (.agg #[.int .i64 t, .int .i64 r]), .int .i64 v] w fun e w' => e = .returned (.tuple #[was0, .int .i64 2]) ∧ Sep w' (rX p L :: rs) := by
  obtain ⟨a, c, hS⟩ := rX_open hS
  exact (putR_bad p a c L t r v w rs hS h).mono fun e w' ⟨he, q⟩ => ⟨he, rX_mk q⟩
theorem rdel_yes (p : Nat) (E : Ent) (t r : Int) (w : World) (rs : List Res) (hn : NodupL E) (hl : E.length ≤ 900) (hS : Sep w (rX p (srtE E) :: rs)) (h : isRec (t, r) = true) :
    Calls Try.prog 28 #[.pointer (some ⟨p, 0, none⟩), (.agg #[.int .i64 t, .int .i64 r])] w fun e w' => e = .returned (.tuple #[wasV t r E, .int .i64 0]) ∧ Sep w' (rX p (srtE (delL E (t, r))) :: rs) := by
  obtain ⟨a, c, hS⟩ := rX_open hS
  refine (delR_good p a c (srtE E) t r w rs hS (by rw [srtE_len]; exact hl) h).mono ?_
  rintro e w' ⟨a', c', he, q⟩
  rw [was_srt hn] at he
  rw [srt_del hn] at q
  exact ⟨he, rX_mk q⟩
theorem rdel_no (p : Nat) (L : Ent) (t r : Int) (w : World) (rs : List Res) (hS : Sep w (rX p L :: rs)) (h : isRec (t, r) = false) :
    Calls Try.prog 28 #[.pointer (some ⟨p, 0, none⟩), (.agg #[.int .i64 t, .int .i64 r])] w fun e w' => e = .returned (.tuple #[was0, .int .i64 2]) ∧ Sep w' (rX p L :: rs) := by
  obtain ⟨a, c, hS⟩ := rX_open hS
  exact (delR_bad p a c L t r w rs hS h).mono fun e w' ⟨he, q⟩ => ⟨he, rX_mk q⟩
theorem rall_x (p : Nat) (L : Ent) (w : World) (rs : List Res) (hS : Sep w (rX p L :: rs)) (hn : L.length ≤ 1000) :
    Calls Try.prog 31 #[.pointer (some ⟨p, 0, none⟩)] w fun e w' => ∃ a c, e = .returned (.slice a L.length c) ∧ Sep w' (vec 39 3 (.slice a L.length c) L.length (L.flatMap rowC) :: rX p L :: rs) := by
  obtain ⟨a, c, hS⟩ := rX_open hS
  exact (allR_any p a c L w rs hS hn).mono fun e w' ⟨a', c', he, q⟩ => ⟨a', c', he, (rX_mk (show Sep w' (rst p a c L (_ :: rs)) from (show Sep w' (_ :: _ :: _ :: rs) from q).to2.to2)).to1⟩
set_option maxHeartbeats 4000000 in
theorem rows_any (u v : Value) (xs ys : Ent) (w : World) (hn : xs.length ≤ 1000) (hu : RL w u 3 xs.length (xs.flatMap rowC)) (hv : RL w v 3 ys.length (ys.flatMap rowC)) :
   Calls Try.prog 32 #[u, v] w fun e w' => e = .returned (.bool (decide (xs = ys))) ∧ Below w.heap.size w w' := by
  obtain ⟨_, a, c, rfl, _⟩ := id hu
  obtain ⟨_, a', c', rfl, _⟩ := id hv
  by_cases hlen : xs.length = ys.length
  · have hne := Lib.hid (fun (k : Nat) (h : xs[k]? ≠ ys[k]?) => (show decide (xs = ys) = false from decide_eq_false (fun e => h (by rw [e]))))
    have heq := Lib.hid (fun (h : ∀ j, j < xs.length → xs[j]? = ys[j]?) => (show decide (xs = ys) = true from decide_eq_true (row_ext hlen h)))
    obtain ⟨n, hl⟩ : ∃ n, xs.length = n := ⟨_, rfl⟩
    rw [hl] at hlen heq hn
    rw [← hlen] at hv ⊢
    rw [hl] at hu ⊢
    have HR := Lib.hid hu
    have HR' := Lib.hid hv
    replace hl := Lib.hid hl
    have hl' := Lib.hid hlen.symm
    clear hlen hu hv
    generalize decide (xs = ys) = b at *
    go_enter Try.func32, Try.ntmps32
    go_wp2
    go_loopw [5] (fun i w1 => ∃ k : Nat, k ≤ n ∧ i = .int .i64 k ∧ Hid (∀ j, j < k → xs[j]? = ys[j]?) ∧ Hid (Below w.heap.size w w1)) (fun i _ => n - (intOf i).toNat)
    case atStart => exact ⟨0, Nat.zero_le _, rfl, Lib.hid (fun j hj => absurd hj (by omega)), Below.refl _ _⟩
    case round =>
      obtain ⟨k, hk, rfl, hp, hb⟩ := hrel
      by_cases hlt : k < n
      · obtain ⟨b1, off, rfl, l1, hc⟩ := row_cells HR.out hl.out (by omega)
        obtain ⟨b2, off', rfl, l2, hc'⟩ := row_cells HR'.out hl'.out (by omega)
        obtain ⟨x, hx⟩ : ∃ x, xs[k]? = some x := ⟨xs[k]'(by rw [hl.out]; exact hlt), List.getElem?_eq_getElem _⟩
        obtain ⟨y, hy⟩ : ∃ y, ys[k]? = some y := ⟨ys[k]'(by rw [hl'.out]; exact hlt), List.getElem?_eq_getElem _⟩
        obtain ⟨x0, x1, x2⟩ := hc k x hx
        obtain ⟨y0, y1, y2⟩ := hc' k y hy
        have k1 : ∀ o, w.cell? ⟨b1, o, none⟩ = wr.cell? ⟨b1, o, none⟩ := fun o => (hb.out.cell (p := ⟨b1, o, none⟩) l1).symm
        have k2 : ∀ o, w.cell? ⟨b2, o, none⟩ = wr.cell? ⟨b2, o, none⟩ := fun o => (hb.out.cell (p := ⟨b2, o, none⟩) l2).symm
        rw [k1] at x0 x1 x2
        rw [k2] at y0 y1 y2
        simp only [← Nat.add_assoc, Nat.add_zero] at x0 x1 x2 y0 y1 y2
        have hq := fun W => run_neq_row x.1.1 y.1.1 x.1.2 y.1.2 x.2 y.2 W
        have hiff := eqB_row_iff x.1.1 y.1.1 x.1.2 y.1.2 x.2 y.2
        generalize eqB_row x.1.1 y.1.1 x.1.2 y.1.2 x.2 y.2 = bb at hiff hq
        have hxy : (x.1.1 = y.1.1 ∧ x.1.2 = y.1.2 ∧ x.2 = y.2) ↔ x = y := by
          obtain ⟨⟨a0, a1⟩, a2⟩ := x
          obtain ⟨⟨c0, c1⟩, c2⟩ := y
          simp [and_assoc]
        have hne' := Lib.hid (fun h : ¬ x = y => hne.out k (by rw [hx, hy]; exact fun e => h (Option.some.inj e)))
        have hp' := Lib.hid (fun (h : x = y) (j : Nat) (hj : j < k + 1) => (show xs[j]? = ys[j]? from by
          by_cases e : j = k
          · rw [e, hx, hy, h]
          · exact hp.out j (by omega)))
        clear hc hc' HR HR' hne heq k1 k2 hx hy l1 l2
        have hk1 := Lib.hid (show k + 1 ≤ n from hlt)
        have i1 : (0 : Int) ≤ (k : Int) := by omega
        have i2 : (k : Int) < (n : Int) := by omega
        by_cases he : x = y
        · have hp2 := Lib.hid (hp'.out he)
          obtain rfl : bb = true := hiff.trans (decide_eq_true (hxy.2 he))
          clear hiff hxy
          clear hp' hne'
          replace he := Lib.hid he
          go_wp2_with fail
          go_quiet (fail)
          go_wp2_with fail
          go_roundw
          case rel => exact ⟨k+1, hk1.out, by go_num, hp2, hb.out.trans ((Keeps.drewN _ _).to_below.mono hb.out.size)⟩
          case measure => have := hk1.out; simp [intOf]; omega
        · have hb2 := Lib.hid (hne'.out he)
          obtain rfl : bb = false := hiff.trans (decide_eq_false fun e => he (hxy.1 e))
          clear hiff hxy
          clear hp' hne'
          replace he := Lib.hid he
          go_wp2_with fail
          go_quiet (fail)
          go_wp2_with fail
          go_ret
          exact ⟨by rw [hb2.out]; rfl, hb.out.trans ((Keeps.drewN _ _).to_below.mono hb.out.size)⟩
      · obtain rfl : k = n := by omega
        have hb2 := Lib.hid (heq.out hp.out)
        clear hne heq
        go_wp2
        go_ret
        exact ⟨by rw [hb2.out]; rfl, hb.out⟩
  · have hb := Lib.hid (show decide (xs = ys) = false from decide_eq_false (fun e => hlen (by rw [e])))
    have i1 : ¬ ((xs.length : Int) = (ys.length : Int)) := by omega
    generalize decide (xs = ys) = b at *
    clear hu hv
    go_enter Try.func32, Try.ntmps32
    go_wp2
    go_ret
    exact ⟨by rw [hb.out]; rfl, Below.refl _ _⟩
def wzT (E : Ent) (t r : Int) : (Int × Int) × (Int × Bool) := if isRec (t, r) = true then ((t, r), ((getL E (t, r)).getD 0, hasL E (t, r))) else ((0, 0), (0, false))
def wzV (z : (Int × Int) × (Int × Bool)) : Value := .agg #[.int .i64 z.1.1, .int .i64 z.1.2, .int .i64 z.2.1, .bool z.2.2]
def erC (t r : Int) : Int := if isRec (t, r) = true then 0 else 2
def puE (E : Ent) (t r v : Int) : Ent := if isRec (t, r) = true then putL E (t, r) v else E
def deE (E : Ent) (t r : Int) : Ent := if isRec (t, r) = true then delL E (t, r) else E
theorem puE_len (E : Ent) (t r v : Int) : (puE E t r v).length ≤ E.length + 1 := by
  unfold puE
  split
  · exact putL_len _ _ _
  · omega
theorem deE_len (E : Ent) (t r : Int) : (deE E t r).length ≤ E.length + 1 := by
  unfold deE
  split
  · have := delL_len E (t, r); omega
  · omega
theorem put_w (p : Nat) (E : Ent) (t r v : Int) (w : World) (rs : List Res) (hS : Sep w (stX p E :: rs)) :
    Calls Try.prog 9 #[.pointer (some ⟨p, 0, none⟩), (.agg #[.int .i64 t, .int .i64 r]), .int .i64 v] w fun e w' => e = .returned (.tuple #[wzV (wzT E t r), .int .i64 (erC t r)]) ∧ Sep w' (stX p (puE E t r v) :: rs) := by
  unfold wzV wzT erC puE
  cases h : isRec (t, r) with
  | true => exact put_yes p E t r v w rs hS h
  | false => exact put_no p E t r v w rs hS h
theorem del_w (p : Nat) (E : Ent) (t r : Int) (w : World) (rs : List Res) (hS : Sep w (stX p E :: rs)) :
    Calls Try.prog 14 #[.pointer (some ⟨p, 0, none⟩), (.agg #[.int .i64 t, .int .i64 r])] w fun e w' => e = .returned (.tuple #[wzV (wzT E t r), .int .i64 (erC t r)]) ∧ Sep w' (stX p (deE E t r) :: rs) := by
  unfold wzV wzT erC deE
  cases h : isRec (t, r) with
  | true => exact del_yes p E t r w rs hS h
  | false => exact del_no p E t r w rs hS h
theorem rput_w (p : Nat) (E : Ent) (t r v : Int) (w : World) (rs : List Res) (hn : NodupL E) (hl : E.length ≤ 900) (hS : Sep w (rX p (srtE E) :: rs)) :
    Calls Try.prog 27 #[.pointer (some ⟨p, 0, none⟩), (.agg #[.int .i64 t, .int .i64 r]), .int .i64 v] w fun e w' => e = .returned (.tuple #[wzV (wzT E t r), .int .i64 (erC t r)]) ∧ Sep w' (rX p (srtE (puE E t r v)) :: rs) := by
  unfold wzV wzT erC puE
  cases h : isRec (t, r) with
  | true => exact rput_yes p E t r v w rs hn hl hS h
  | false => exact rput_no p (srtE E) t r v w rs hS h
theorem rdel_w (p : Nat) (E : Ent) (t r : Int) (w : World) (rs : List Res) (hn : NodupL E) (hl : E.length ≤ 900) (hS : Sep w (rX p (srtE E) :: rs)) :
    Calls Try.prog 28 #[.pointer (some ⟨p, 0, none⟩), (.agg #[.int .i64 t, .int .i64 r])] w fun e w' => e = .returned (.tuple #[wzV (wzT E t r), .int .i64 (erC t r)]) ∧ Sep w' (rX p (srtE (deE E t r)) :: rs) := by
  unfold wzV wzT erC deE
  cases h : isRec (t, r) with
  | true => exact rdel_yes p E t r w rs hn hl hS h
  | false => exact rdel_no p (srtE E) t r w rs hS h
theorem keepL_sn {α : Type} (p : α → Bool) (l : List α) (x : α) : keepL p (l ++ [x]) = if p x = true then keepL p l else keepL p l ++ [x] := by
  unfold keepL
  rw [List.filter_append]
  cases h : p x <;> simp [h]
theorem row_flat2 (o : Ent) (x y u : Int) : (o ++ [((x, y), u)]).flatMap rowC = o.flatMap rowC ++ [.int .i64 x, .int .i64 y, .int .i64 u] := row_flat o ((x, y), u)
set_option maxHeartbeats 8000000 in
set_option maxRecDepth 100000 in
theorem scanR_any (p : Nat) (a : Option Addr) (c : Nat) (L : Ent) (tn : Int) (w : World) (rs : List Res) (hS : Sep w (rst p a c L rs)) (hn : L.length ≤ 900) :
    Calls Try.prog 30 #[.pointer (some ⟨p, 0, none⟩), .int .i64 tn] w fun e w' => ∃ a' c', e = .returned (.slice a' (keepL (outT tn) L).length c') ∧ Sep w' (vec 39 3 (.slice a' (keepL (outT tn) L).length c') (keepL (outT tn) L).length ((keepL (outT tn) L).flatMap rowC) :: rst p a c L rs) := by
  obtain ⟨i0, hi0, hz0, hz1, hz2⟩ := info_parts info_row
  obtain ⟨n, hl⟩ : ∃ n, L.length = n := ⟨_, rfl⟩
  obtain ⟨V, hV⟩ : ∃ V, Hid (keepL (outT tn) L = V) := ⟨_, rfl⟩
  rw [hV.out]
  have hB := Lib.hid (hS.vec_nil 39 3)
  unfold rst at *
  rw [hl] at hB hn ⊢
  replace hl := Lib.hid hl
  clear hS
  go_enter Try.func30, Try.ntmps30
  go_wp2_with fail
  go_loopg [5, 6] n (fun gm s5 s6 W => ∃ (k : Nat) (oa : Option Addr) (oc : Nat) (o : Ent), k ≤ n ∧ gm = n - k ∧ s5 = .slice oa o.length oc ∧ s6 = .int .i64 k ∧ Hid (o = keepL (outT tn) (L.take k)) ∧ Hid (o.length ≤ k) ∧ Hid (Sep W (vec 39 3 (.slice oa o.length oc) o.length (o.flatMap rowC) :: blk p 59 #[.slice a n c] :: vec 39 3 (.slice a n c) n (L.flatMap rowC) :: rs)))
  case atStart => exact ⟨0, none, 0, [], Nat.zero_le _, rfl, rfl, rfl, Lib.hid (by simp [keepL]), Lib.hid (by simp), hB⟩
  case round =>
    clear hB
    obtain ⟨k, oa, oc, o, hk, hgm, rfl, rfl, hE, hol, hB⟩ := hrel
    obtain ⟨_, c0, _⟩ := hB.out.to1.b1
    by_cases hlt : k < n
    · obtain ⟨b, off, rfl, hb, zz⟩ := row_cells hB.out.to2.vec_rl hl.out (by omega)
      have hkl : k < L.length := by rw [hl.out]; exact hlt
      have hx : L[k]? = some L[k] := List.getElem?_eq_getElem hkl
      have htk : L.take (k + 1) = L.take k ++ [L[k]] := List.take_succ_eq_append_getElem hkl
      obtain ⟨z0, z1, z2⟩ := zz k _ hx
      simp only [← Nat.add_assoc, Nat.add_zero] at z0 z1 z2
      generalize L[k] = xx at *
      clear zz hx hkl
      obtain ⟨⟨x, y⟩, u⟩ := xx
      simp only at z0 z1 z2
      have hE2 := Lib.hid (show keepL (outT tn) (L.take (k + 1)) = if (x != tn) = true then o else o ++ [((x, y), u)] by rw [htk, keepL_sn, ← hE.out]; rfl)
      clear htk
      have i1 : (0 : Int) ≤ (k : Int) := by omega
      have i2 : (k : Int) < (n : Int) := by omega
      have hms := Lib.hid (show n - (k + 1) < n - k from Nat.sub_lt_sub_left hlt (Nat.lt_succ_self k))
      by_cases he : x = tn
      · subst he
        have hE3 := Lib.hid (show o ++ [((x, y), u)] = keepL (outT x) (L.take (k + 1)) by rw [hE2.out]; simp)
        have he1 : (x == x) = true := by simp
        clear hE2
        go_wp2_with (at_builtin; refine wpList_append_sep (hB.out.allocG _) rfl _ _ 40 rfl i0 _ 24 Try.underlying40 hi0 hz0 hz1 hz2 rfl (by decide) rfl 1 [.int .i64 x, .int .i64 y, .int .i64 u] (srcA_row _ #[.int .i64 x, .int .i64 y, .int .i64 u] _ _ 3 rfl) (by simp [Value.oneCell']) (by have := hol.out; simp only [maxLen]; omega) (by have := hol.out; omega) ?_; intro oa2 oc2 w6 q2; replace q2 := Lib.hid q2)
        go_roundg (n - (k + 1))
        case measure => first | exact hms.out | (rw [hgm]; exact hms.out)
        case rel => exact ⟨k + 1, oa2, oc2, o ++ [((x, y), u)], by omega, rfl, by simp, by go_num, hE3, Lib.hid (by have := hol.out; simp; omega), Lib.hid (by rw [row_flat2]; simpa using q2.out)⟩
      · have hE3 := Lib.hid (show o = keepL (outT tn) (L.take (k + 1)) by rw [hE2.out]; simp [he])
        have he1 : (x == tn) = false := by rw [beq_eq_false_iff_ne]; exact he
        clear hE2
        go_wp2_with fail
        go_roundg (n - (k + 1))
        case measure => first | exact hms.out | (rw [hgm]; exact hms.out)
        case rel => exact ⟨k + 1, oa, oc, o, by omega, rfl, rfl, by go_num, hE3, Lib.hid (by have := hol.out; omega), hB⟩
    · obtain rfl : k = n := by omega
      rw [← hl.out, List.take_length, hV.out] at hE
      go_wp2_with fail
      go_ret
      rw [← hE.out]
      exact ⟨oa, oc, rfl, hB.out⟩
theorem rscan_x (p : Nat) (E : Ent) (tn : Int) (w : World) (rs : List Res) (hS : Sep w (rX p (srtE E) :: rs)) (hn : E.length ≤ 900) :
    Calls Try.prog 30 #[.pointer (some ⟨p, 0, none⟩), .int .i64 tn] w fun e w' => ∃ a c, e = .returned (.slice a (tabL tn E).length c) ∧ Sep w' (vec 39 3 (.slice a (tabL tn E).length c) (tabL tn E).length ((tabL tn E).flatMap rowC) :: rX p (srtE E) :: rs) := by
  obtain ⟨a, c, hS⟩ := rX_open hS
  unfold tabL
  exact (scanR_any p a c (srtE E) tn w rs hS (by rw [srtE_len]; exact hn)).mono fun e w' ⟨a', c', he, q⟩ => ⟨a', c', he, (rX_mk (show Sep w' (rst p a c (srtE E) (_ :: rs)) from (show Sep w' (_ :: _ :: _ :: rs) from q).to2.to2)).to1⟩
theorem rget_x (p : Nat) (E : Ent) (t r : Int) (w : World) (rs : List Res) (hnd : NodupL E) (hS : Sep w (rX p (srtE E) :: rs)) (hn : E.length ≤ 1000) :
    Calls Try.prog 29 #[.pointer (some ⟨p, 0, none⟩), (.agg #[.int .i64 t, .int .i64 r])] w fun e w' => e = .returned (.tuple #[.int .i64 ((getL E (t, r)).getD 0), .bool (hasL E (t, r))]) ∧ Sep w' (rX p (srtE E) :: rs) := by
  obtain ⟨a, c, hS⟩ := rX_open hS
  refine (getR_any p a c (srtE E) t r w rs hS (by rw [srtE_len]; exact hn)).mono ?_
  rintro e w' ⟨he, q⟩
  rw [srt_get hnd, srt_has hnd] at he
  exact ⟨he, rX_mk q⟩
theorem rclone_x (p : Nat) (L : Ent) (w : World) (rs : List Res) (hS : Sep w (rX p L :: rs)) (hn : L.length ≤ 1000) :
    Calls Try.prog 26 #[.pointer (some ⟨p, 0, none⟩)] w fun e w' => ∃ p', e = .returned (.pointer (some ⟨p', 0, none⟩)) ∧ Sep w' (rX p' L :: rX p L :: rs) := by
  have HA := Lib.hid (rall_x p L w rs hS hn)
  clear hS
  have hmk := Lib.hid (fun (W : World) (p' : Nat) (a : Option Addr) (c : Nat) (h : Sep W (rst p' a c L (rX p L :: rs))) => rX_mk h)
  unfold rst at hmk
  generalize hl : L.length = n at *
  replace hl := Lib.hid hl
  go_enter Try.func26, Try.ntmps26
  go_wp2_with fail
  refine HA.out.mono ?_
  rintro e w1 ⟨a, c, rfl, q⟩
  replace q := Lib.hid (q.alloc #[.slice a n c] 59)
  go_wp2_with fail
  go_ret
  exact ⟨_, rfl, hmk.out _ _ _ _ q.out⟩
end Go.Proofs.Ytbpeajcfabjphaa
