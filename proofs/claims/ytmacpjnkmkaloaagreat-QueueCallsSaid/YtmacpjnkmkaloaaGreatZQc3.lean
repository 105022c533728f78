/-
  Contracts and plain laws that the walk leans on, part 3. No condition.
-/
import Derived.Test.YtmacpjnkmkaloaaGreatZQc2
import Derived.BigRegion
namespace Go.Proofs.YtmacpjnkmkaloaaGreat
set_option linter.unusedSimpArgs false
set_option linter.unusedVariables false
set_option linter.unnecessarySimpa false
open Go.RowKit
def grant (l : List Rq) (i : Nat) : List Rq := l.set i { (l.getD i default) with mode := (l.getD i default).want, since := 0 }
theorem grant_len (l : List Rq) (i : Nat) : (grant l i).length = l.length := by simp [grant]
theorem qcells_grant (l : List Rq) (i : Nat) (h : i < l.length) : ((qcells l).set (i * 5 + 2) (.int .i64 (l.getD i default).want)).set (i * 5 + 4) (.int .i64 0) = qcells (grant l i) := by
  induction l generalizing i with
  | nil => simp at h
  | cons r l ih =>
    cases i with
    | zero => rfl
    | succ i =>
      have ih' := ih i (by simpa using h)
      have e : (r :: l).getD (i + 1) default = l.getD i default := by simp [List.getD]
      unfold grant
      rw [e]
      simp only [List.set_cons_succ]
      unfold grant at ih'
      simp only [qcells, List.flatMap_cons] at ih' ⊢
      rw [← ih']
      rw [List.set_append_right _ _ (by simp [Rq.cells]; omega), List.set_append_right _ _ (by simp [Rq.cells]; omega)]
      simp only [Rq.cells, List.length_cons, List.length_nil]
      rw [show (i + 1) * 5 + 2 - (0 + 1 + 1 + 1 + 1 + 1) = i * 5 + 2 by omega, show (i + 1) * 5 + 4 - (0 + 1 + 1 + 1 + 1 + 1) = i * 5 + 4 by omega]
theorem Sep.vq_ne {w : World} {g g' m c : Nat} {l : List Rq} {t' : TypeId} {cs' : Array Value} {rs : List Res} (h : Sep w (vq (.slice (some ⟨g, 0, none⟩) m c) l :: blk g' t' cs' :: rs)) (hl : l.length = m) : g ≠ g' := by
  subst hl
  exact Sep.vec_ne (show Sep w (vec 42 5 (.slice (some ⟨g, 0, none⟩) l.length c) l.length (qcells l) :: blk g' t' cs' :: rs) from h)
theorem Sep.vq_grant {w : World} {g m c i : Nat} {l : List Rq} {rs : List Res} (h : Sep w (vq (.slice (some ⟨g, 0, none⟩) m c) l :: rs)) (hl : l.length = m) (hi : i < m) :
    Sep ((w.setCell ⟨g, i * 5 + 2, none⟩ (.int .i64 (l.getD i default).want)).setCell ⟨g, i * 5 + 4, none⟩ (.int .i64 0)) (vq (.slice (some ⟨g, 0, none⟩) m c) (grant l i) :: rs) := by
  subst hl
  have h1 : Sep w (vec 42 5 (.slice (some ⟨g, 0, none⟩) l.length c) l.length (qcells l) :: rs) := h
  have h2 := (h1.vec_set (k := i * 5 + 2) (by rw [qcells_len]; omega) (.int .i64 (l.getD i default).want)).vec_set (k := i * 5 + 4) (by rw [List.length_set, qcells_len]; omega) (.int .i64 0)
  rw [qcells_grant l i hi] at h2
  unfold vq
  rw [grant_len]
  exact h2
/-- How many wait, or hold nothing. -/
def openB (r : Rq) : Bool := r.mode == 0 || decide (0 < r.since)
def opens (l : List Rq) : Nat := l.countP openB
/-- The scan, by at most so many grants: what is left, and who was granted. -/
def scanN : Nat → List Rq → List Int → List Rq × List Int
  | 0, l, ids => (l, ids)
  | f+1, l, ids =>
    if firstI l < 0 then (l, ids)
    else if l.any (fitsP (l.getD (firstI l).toNat default)) then (l, ids)
    else scanN f (grant l (firstI l).toNat) (ids ++ [(l.getD (firstI l).toNat default).id])
/-- Whoever waits wants something. -/
def Wants (l : List Rq) : Prop := ∀ r ∈ l, openB r = true → r.want ≠ 0
theorem idxF_bd {α : Type} [Inhabited α] (p : α → Bool) : ∀ (l : List α) (k : Nat), idxF p l k = -1 ∨ (∃ j, idxF p l k = ((k + j : Nat) : Int) ∧ j < l.length ∧ p (l.getD j default) = true)
  | [], k => .inl rfl
  | x :: l, k => by
    unfold idxF
    cases h : p x with
    | true => exact .inr ⟨0, by simp, by simp, by simpa [List.getD] using h⟩
    | false =>
      rcases idxF_bd p l (k + 1) with h' | ⟨j, h1, h2, h3⟩
      · exact .inl (by simpa using h')
      · refine .inr ⟨j + 1, by simp [h1]; omega, by simpa using h2, by simpa [List.getD] using h3⟩
theorem bestK_up (l : List Rq) : ∀ k, k ≤ l.length → 0 ≤ bestK l k → upB (l.getD (bestK l k).toNat default) = true
  | 0, _, h => by simp [bestK] at h
  | k+1, hk, h => by
    unfold bestK at h ⊢
    split
    · rename_i hc
      simp only [Int.toNat_natCast]
      simp only [Bool.and_eq_true] at hc
      exact hc.1
    · rename_i hc
      rw [if_neg hc] at h
      exact bestK_up l k (by omega) h
/-- Whom the scan would grant is there, and waits. -/
theorem firstI_spec (l : List Rq) (h : 0 ≤ firstI l) : ∃ i : Nat, firstI l = i ∧ i < l.length ∧ openB (l.getD i default) = true := by
  unfold firstI at h ⊢
  split
  · rename_i hb
    rw [if_pos hb] at h
    rcases idxF_bd (fun r : Rq => r.mode == 0) l 0 with h' | ⟨j, h1, h2, h3⟩
    · omega
    · exact ⟨j, by simpa using h1, h2, by simp only [openB, h3, Bool.true_or]⟩
  · rename_i hb
    have bd := bestK_bd l l.length
    have hu := bestK_up l l.length (Nat.le_refl _) (by omega)
    refine ⟨(bestK l l.length).toNat, by omega, by omega, ?_⟩
    simp only [upB, Bool.and_eq_true] at hu
    simp only [openB, hu.2, Bool.or_true]
theorem opens_grant : ∀ (l : List Rq) (i : Nat), i < l.length → openB (l.getD i default) = true → (l.getD i default).want ≠ 0 → opens (grant l i) + 1 = opens l
  | [], i, h, _, _ => by simp at h
  | r :: l, 0, _, h1, h2 => by
    simp only [List.getD, List.getElem?_cons_zero, Option.getD_some] at h1 h2
    have h3 : openB { r with mode := r.want, since := 0 } = false := by simp [openB, h2]
    simp only [opens, grant, List.getD, List.getElem?_cons_zero, Option.getD_some, List.set_cons_zero]
    rw [List.countP_cons_of_neg (by rw [h3]; decide), List.countP_cons_of_pos h1]
  | r :: l, i + 1, h, h1, h2 => by
    have e : (r :: l).getD (i + 1) default = l.getD i default := by simp [List.getD]
    rw [e] at h1 h2
    have := opens_grant l i (by simpa using h) h1 h2
    have e2 : grant (r :: l) (i + 1) = r :: grant l i := by unfold grant; rw [e]; rfl
    rw [e2]
    simp only [opens, List.countP_cons] at this ⊢
    omega
theorem wants_grant (l : List Rq) (i : Nat) (h : Wants l) (hi : i < l.length) (ho : openB (l.getD i default) = true) : Wants (grant l i) := by
  intro r hr hw
  unfold grant at hr
  rcases List.mem_or_eq_of_mem_set hr with h1 | h1
  · exact h r h1 hw
  · subst h1
    have := h (l.getD i default) (by simp [List.getD, hi]) ho
    exact this
theorem opens_le (l : List Rq) : opens l ≤ l.length := List.countP_le_length
set_option maxHeartbeats 4000000 in
theorem scan_any (t r n : Int) (v : Value) (l : List Rq) (w : World) (hv : RQ w v l) (hl : l.length ≤ 1000) (hw : Wants l) :
    Calls Tryz.prog 31 #[hval t r v n] w fun e w' => ∃ a c b d, e = .returned (.tuple #[hval t r (.slice a (scanN (opens l) l []).1.length c) n, .slice b (scanN (opens l) l []).2.length d]) ∧
      Sep w' [vq (.slice a (scanN (opens l) l []).1.length c) (scanN (opens l) l []).1, vec 3 1 (.slice b (scanN (opens l) l []).2.length d) (scanN (opens l) l []).2.length ((scanN (opens l) l []).2.map (Value.int .i64)), old w] := by
  have h0 : ∀ b1 b2, Sep ((w.alloc (.cells b1 26)).alloc (.cells b2 26)) [blk (w.heap.size + 1) 26 b2, blk w.heap.size 26 b1, old w] := fun b1 b2 => by
    have := ((Sep.start w).alloc b1 26).alloc b2 26
    rw [World.size_alloc] at this
    exact this
  have H := Lib.hid (fun b1 b2 => own_any t r n v l ((w.alloc (.cells b1 26)).alloc (.cells b2 26)) (hv.below (two_boxes _ _ _ _ _)) hl)
  replace h0 := Lib.hid h0
  replace hw := Lib.hid hw
  obtain ⟨a, c, rfl, _⟩ := hv
  obtain ⟨i0, hi, hz0, hz1, hz2⟩ := info_parts info_int
  unfold hval at *
  go_enter Tryz.func31, Tryz.ntmps31
  go_wp2_with fail
  refine (H.out _ _).mono ?_
  rintro e w1 ⟨a1, c1, rfl, hS⟩
  have hT := Lib.hid (((hS.graft (h0.out _ _)).alloc #[.int .i64 t, .int .i64 r, .slice a1 l.length c1, .int .i64 n] 62).vec_nil 3 1)
  obtain ⟨y1, d0, d1, d2, d3, g0, g1, g2, g3⟩ := hT.out.to3.b4
  clear hS H h0
  go_wp2_with fail
  have hT2 : Hid (Sep (w1.alloc (.cells #[.int .i64 t, .int .i64 r, .slice a1 l.length c1, .int .i64 n] 62)) [vec 3 1 (.slice none 0 0) 0 [], blk w1.heap.size 62 #[.int .i64 t, .int .i64 r, .slice a1 l.length c1, .int .i64 n], vq (.slice a1 l.length c1) l, blk (w.heap.size + 1) 26 #[.int .i64 0, .int .i64 0, .slice none 0 0, .int .i64 0], blk w.heap.size 26 #[.int .i64 t, .int .i64 r, .slice a l.length c, .int .i64 n], old w]) := hT
  clear hT y1 d0 d1 d2 d3 g0 g1 g2 g3
  generalize hm : l.length = m at *
  replace hm := Lib.hid hm
  generalize w1.alloc (.cells #[.int .i64 t, .int .i64 r, .slice a1 m c1, .int .i64 n] 62) = W0 at *
  generalize w1.heap.size = V at *
  go_loopg [5] (opens l) (fun g s5 wr => ∃ (cur : List Rq) (ids : List Int) (sv : Value), sv = s5 ∧ Hid (scanN (opens l) l [] = scanN g cur ids) ∧ Hid (opens cur = g) ∧ Hid (Wants cur) ∧ Hid (cur.length = m) ∧ ids.length + g ≤ 1000 ∧ Hid (Sep wr [vec 3 1 sv ids.length (ids.map (Value.int .i64)), blk V 62 #[.int .i64 t, .int .i64 r, .slice a1 m c1, .int .i64 n], vq (.slice a1 m c1) cur, blk (w.heap.size + 1) 26 #[.int .i64 0, .int .i64 0, .slice none 0 0, .int .i64 0], blk w.heap.size 26 #[.int .i64 t, .int .i64 r, .slice a m c, .int .i64 n], old w]))
  case atStart => exact ⟨l, [], _, rfl, rfl, rfl, hw, hm, by have := opens_le l; have := hm.out; simp; omega, Lib.hid (by simpa using hT2.out)⟩
  case round =>
    clear hT2 hw hm
    obtain ⟨cur, ids, sv, rfl, hE, ho, hw, hcl, hlen, hS⟩ := hrel
    have hQ : RQ wr (.slice a1 m c1) cur := hS.out.to2.vq_rq
    have HF := Lib.hid (first_any t r n (.slice a1 m c1) cur wr hQ (by rw [hcl.out]; exact hl))
    obtain ⟨sa, sc, rfl⟩ := own_slice hS.out.gvec
    obtain ⟨y1, d0, d1, d2, d3, g0, g1, g2, g3⟩ := hS.out.to1.b4
    have hspec := Lib.hid (firstI_spec cur)
    have hsc := Lib.hid (show ∀ f, scanN (f + 1) cur ids = if firstI cur < 0 then (cur, ids) else if cur.any (fitsP (cur.getD (firstI cur).toNat default)) then (cur, ids) else scanN f (grant cur (firstI cur).toNat) (ids ++ [(cur.getD (firstI cur).toNat default).id]) from fun f => rfl)
    unfold hval at HF
    go_wp2_with fail
    refine HF.out.mono ?_
    rintro e w2 ⟨rfl, b2⟩
    replace hS := Lib.hid (hS.out.below b2)
    clear b2 HF y1 d0 d1 d2 d3 g0 g1 g2 g3
    obtain ⟨y1, d0, d1, d2, d3, g0, g1, g2, g3⟩ := hS.out.to1.b4
    obtain ⟨y2, e0, e1, e2, e3, f0, f1, f2, f3⟩ := hS.out.to3.b4
    by_cases hneg : firstI cur < 0
    · have ES := Lib.hid (show scanN (opens l) l [] = (cur, ids) by
        rw [hE.out]
        cases gk with
        | zero => rfl
        | succ f => rw [hsc.out, if_pos hneg])
      have d : decide (firstI cur < 0) = true := by simpa using hneg
      clear hsc hspec hneg hE
      generalize firstI cur = fi at *
      go_wp2_with fail
      refine bodyPost_ret (v := .tuple #[.agg #[.int .i64 t, .int .i64 r, .slice a1 m c1, .int .i64 n], .slice sa ids.length sc]) (by simp [results, Tryz.results31, go_sem, *]) rfl ?_
      refine ⟨a1, c1, sa, sc, ?_, ?_⟩
      · rw [ES.out, hcl.out]
      · rw [ES.out]
        simp only
        rw [hcl.out]
        have hZ := ((((hS.out.to3.set 0 (.int .i64 t)).set 1 (.int .i64 r)).set 2 (.slice a1 m c1)).set 3 (.int .i64 n)).tail
        first | exact hZ.to2.drop2.drop2 | exact hZ.to2.drop2.drop2.drew
    · obtain ⟨i, hi', hil, hop⟩ := hspec.out (by omega)
      rw [hi', Int.toNat_natCast] at hsc
      have d : decide ((i : Int) < 0) = false := by rw [decide_eq_false_iff_not]; omega
      rw [hi']
      have hil' : i < m := by have := hcl.out; omega
      have i1 : (0 : Int) ≤ (i : Int) := by omega
      have i2 : (i : Int) < (m : Int) := by omega
      have eg : ∀ args w, (callFunc 45 args).run Tryz.prog w = .ok (.enter 45 args) w := enters_of Tryz.func45 (by kernel_rfl) rfl
      obtain ⟨g, rfl, hgl, hmc, q0, q1, q2, q3, q4, hfz⟩ := hS.out.to2.vq_at hcl.out hil'
      have hF := Lib.hid (fits_any t r n (.slice (some ⟨g, 0, none⟩) m c1) cur (cur.getD i default) w2 hS.out.to2.vq_rq (by rw [hcl.out]; exact hl))
      unfold hval Rq.val at hF
      have z2 := hfz (i * 5 + 2)
      have z4 := hfz (i * 5 + 4)
      have hgr := Lib.hid (qcells_grant cur i hil)
      have hog := Lib.hid (opens_grant cur i hil hop)
      have hwg := Lib.hid (wants_grant cur i hw.out hil hop)
      have hwi := Lib.hid (hw.out (cur.getD i default) (by simp [List.getD, hil]) hop)
      clear hfz hspec hop hil
      generalize hq : cur.getD i default = q at *
      replace hq := Lib.hid hq
      obtain ⟨id, txn, mode, want, since⟩ := q
      simp only at q0 q1 q2 q3 q4 hF
      go_wp2_with fail
      refine hF.out.mono ?_
      rintro e w3 ⟨rfl, b3⟩
      replace hS := Lib.hid (hS.out.below b3)
      clear b3 hF q0 q1 q2 q3 q4 z2 z4 y1 d0 d1 d2 d3 g0 g1 g2 g3 y2 e0 e1 e2 e3 f0 f1 f2 f3
      obtain ⟨y1, d0, d1, d2, d3, g0, g1, g2, g3⟩ := hS.out.to1.b4
      obtain ⟨y2, e0, e1, e2, e3, f0, f1, f2, f3⟩ := hS.out.to3.b4
      obtain ⟨g', hg', hgl', _, q0, q1, q2, q3, q4, hfz⟩ := hS.out.to2.vq_at hcl.out hil'
      injection hg' with hg'
      injection hg' with hg'
      subst hg'
      rw [hq.out] at q0 q1 q2 q3 q4
      have z2 := hfz (i * 5 + 2)
      have z4 := hfz (i * 5 + 4)
      have n1 := hS.out.to1.to2.vq_ne hcl.out
      have n2 := Ne.symm n1
      clear hfz
      simp only at q0 q1 q2 q3 q4
      cases hany : cur.any (fitsP ⟨id, txn, mode, want, since⟩) with
      | true =>
        have ES := Lib.hid (show scanN (opens l) l [] = (cur, ids) by
          rw [hE.out]
          cases gk with
          | zero => rfl
          | succ f => rw [hsc.out, if_neg (by omega), if_pos hany])
        clear hsc hE hgr hog hwg hwi hany
        have hS := hS
        go_wp2_with fail
        refine bodyPost_ret (v := .tuple #[.agg #[.int .i64 t, .int .i64 r, .slice (some ⟨g, 0, none⟩) m c1, .int .i64 n], .slice sa ids.length sc]) (by simp [results, Tryz.results31, go_sem, *]) rfl ?_
        refine ⟨(some ⟨g, 0, none⟩), c1, sa, sc, ?_, ?_⟩
        · rw [ES.out, hcl.out]
        · rw [ES.out]
          simp only
          rw [hcl.out]
          have hZ := ((((hS.out.to3.set 0 (.int .i64 t)).set 1 (.int .i64 r)).set 2 (.slice (some ⟨g, 0, none⟩) m c1)).set 3 (.int .i64 n)).tail
          first | exact hZ.to2.drop2.drop2 | exact hZ.to2.drop2.drop2.drew
      | false =>
        obtain ⟨f, rfl⟩ : ∃ f, gk = f + 1 := ⟨gk - 1, by have := hog.out hwi.out; have := ho.out; omega⟩
        have ES := Lib.hid (show scanN (opens l) l [] = scanN f (grant cur i) (ids ++ [id]) by rw [hE.out, hsc.out, if_neg (by omega), if_neg (by rw [hany]; decide)])
        have hfo := Lib.hid (show opens (grant cur i) = f by have := hog.out hwi.out; have := ho.out; omega)
        clear hsc hE hany
        go_wp2_with fail
        go_region
        have hS4 := hS.out.to2.vq_grant hcl.out hil'
        rw [hq.out] at hS4
        simp only at hS4
        replace hS4 := hS4.drew
        have hcl4 : Hid ((grant cur i).length = m) := by rw [grant_len]; exact hcl.out
        clear y1 d0 d1 d2 d3 g0 g1 g2 g3 y2 e0 e1 e2 e3 f0 f1 f2 f3 q0 q1 q2 q3 q4 z2 z4
        obtain ⟨y1, d0, d1, d2, d3, g0, g1, g2, g3⟩ := hS4.to2.b4
        obtain ⟨g', hg', hgl', _, q0, q1, q2, q3, q4, _⟩ := hS4.vq_at hcl4.out hil'
        injection hg' with hg'
        injection hg' with hg'
        subst hg'
        have hgi := Lib.hid (show (grant cur i).getD i default = ⟨id, txn, want, want, 0⟩ by simp only [grant, hq.out]; simp [List.getD, hcl.out, hil'])
        rw [hgi.out] at q0
        simp only at q0
        replace hS4 := Lib.hid hS4
        generalize World.drew _ = w4 at *
        clear q1 q2 q3 q4

        go_wp2_with (at_builtin; refine wpList_append_sep (hS4.out.to1.allocG _) rfl _ _ 48 rfl i0 (.int .i64 0) 8 Tryz.underlying48 hi hz0 hz1 hz2 rfl (by decide) rfl 1 [.int .i64 id] (SrcA.one _ _ _ _) ?c2 ?c3 ?c4 ?_)
        case c2 => simp [Value.oneCell']
        case c3 => simp only [maxLen]; omega
        case c4 => omega
        intro aa ca w5 hS5
        replace hS5 := Lib.hid hS5
        clear hS4
        go_wp2_with fail
        go_roundg f
        case measure => omega
        case rel => exact ⟨grant cur i, ids ++ [id], _, rfl, ES, hfo, hwg, hcl4, by simp; omega, Lib.hid (by have h := hS5.out.to2.to1; simpa using h)⟩
end Go.Proofs.YtmacpjnkmkaloaaGreat
namespace Go.Proofs.YtmacpjnkmkaloaaGreat
set_option linter.unusedSimpArgs false
set_option linter.unusedVariables false
set_option linter.unnecessarySimpa false
open Go.RowKit
theorem knownR_any (m : Int) (w : World) : Calls Tryz.prog 75 #[.int .i64 m] w fun e w' => e = .returned (.bool (knownB m)) ∧ w = w' := by
  unfold knownB
  by_cases h1 : 0 ≤ m
  · by_cases h2 : m ≤ 6
    · rw [show decide (0 ≤ m ∧ m ≤ 6) = true by simp [h1, h2]]
      go_enter Tryz.func75, Tryz.ntmps75
      go_wp2
      go_ret
      exact ⟨rfl, rfl⟩
    · rw [show decide (0 ≤ m ∧ m ≤ 6) = false by simp [h2]]
      go_enter Tryz.func75, Tryz.ntmps75
      go_wp2
      go_ret
      exact ⟨rfl, rfl⟩
  · rw [show decide (0 ≤ m ∧ m ≤ 6) = false by simp [h1]]
    go_enter Tryz.func75, Tryz.ntmps75
    go_wp2
    go_ret
    exact ⟨rfl, rfl⟩
def pl (b : Bool) : UInt8 := if b then 43 else 46
/-- Seven signs: a + where the modes agree. -/
def signs (f : Nat → Bool) : ByteArray := ⟨#[pl (f 0), pl (f 1), pl (f 2), pl (f 3), pl (f 4), pl (f 5), pl (f 6)]⟩
def comRow (k : Nat) : ByteArray := signs (fun b => comB k b)
def covRow (k : Nat) : ByteArray := signs (fun b => covB k b)
theorem row_any (k : Nat) (hk : k < 7) (w : World) : Calls Tryz.prog 77 #[.int .i64 k] w fun e w' => e = .returned (.string (comRow k)) ∧ Below w.heap.size w w' := by
  have : k = 0 ∨ k = 1 ∨ k = 2 ∨ k = 3 ∨ k = 4 ∨ k = 5 ∨ k = 6 := by omega
  rcases this with rfl | rfl | rfl | rfl | rfl | rfl | rfl
  · have E := Lib.hid (show comRow 0 = ⟨#[43, 43, 43, 43, 43, 43, 43]⟩ by decide +kernel)
    go_enter Tryz.func77, Tryz.ntmps77
    go_wp2
    go_ret
    exact ⟨by rw [E.out]; rfl, (Below.refl _ _).alloc (Nat.le_refl _) _⟩
  · have E := Lib.hid (show comRow 1 = ⟨#[43, 43, 43, 43, 43, 43, 46]⟩ by decide +kernel)
    go_enter Tryz.func77, Tryz.ntmps77
    go_wp2
    go_ret
    exact ⟨by rw [E.out]; rfl, (Below.refl _ _).alloc (Nat.le_refl _) _⟩
  · have E := Lib.hid (show comRow 2 = ⟨#[43, 43, 43, 46, 46, 46, 46]⟩ by decide +kernel)
    go_enter Tryz.func77, Tryz.ntmps77
    go_wp2
    go_ret
    exact ⟨by rw [E.out]; rfl, (Below.refl _ _).alloc (Nat.le_refl _) _⟩
  · have E := Lib.hid (show comRow 3 = ⟨#[43, 43, 46, 43, 46, 43, 46]⟩ by decide +kernel)
    go_enter Tryz.func77, Tryz.ntmps77
    go_wp2
    go_ret
    exact ⟨by rw [E.out]; rfl, (Below.refl _ _).alloc (Nat.le_refl _) _⟩
  · have E := Lib.hid (show comRow 4 = ⟨#[43, 43, 46, 46, 46, 46, 46]⟩ by decide +kernel)
    go_enter Tryz.func77, Tryz.ntmps77
    go_wp2
    go_ret
    exact ⟨by rw [E.out]; rfl, (Below.refl _ _).alloc (Nat.le_refl _) _⟩
  · have E := Lib.hid (show comRow 5 = ⟨#[43, 43, 46, 43, 46, 46, 46]⟩ by decide +kernel)
    go_enter Tryz.func77, Tryz.ntmps77
    go_wp2
    go_ret
    exact ⟨by rw [E.out]; rfl, (Below.refl _ _).alloc (Nat.le_refl _) _⟩
  · have E := Lib.hid (show comRow 6 = ⟨#[43, 46, 46, 46, 46, 46, 46]⟩ by decide +kernel)
    go_enter Tryz.func77, Tryz.ntmps77
    go_wp2
    go_ret
    exact ⟨by rw [E.out]; rfl, (Below.refl _ _).alloc (Nat.le_refl _) _⟩
theorem under_any (k : Nat) (hk : k < 7) (w : World) : Calls Tryz.prog 90 #[.int .i64 k] w fun e w' => e = .returned (.string (covRow k)) ∧ Below w.heap.size w w' := by
  have : k = 0 ∨ k = 1 ∨ k = 2 ∨ k = 3 ∨ k = 4 ∨ k = 5 ∨ k = 6 := by omega
  rcases this with rfl | rfl | rfl | rfl | rfl | rfl | rfl
  · have E := Lib.hid (show covRow 0 = ⟨#[43, 46, 46, 46, 46, 46, 46]⟩ by decide +kernel)
    go_enter Tryz.func90, Tryz.ntmps90
    go_wp2
    go_ret
    exact ⟨by rw [E.out]; rfl, (Below.refl _ _).alloc (Nat.le_refl _) _⟩
  · have E := Lib.hid (show covRow 1 = ⟨#[43, 43, 46, 46, 46, 46, 46]⟩ by decide +kernel)
    go_enter Tryz.func90, Tryz.ntmps90
    go_wp2
    go_ret
    exact ⟨by rw [E.out]; rfl, (Below.refl _ _).alloc (Nat.le_refl _) _⟩
  · have E := Lib.hid (show covRow 2 = ⟨#[43, 43, 43, 46, 46, 46, 46]⟩ by decide +kernel)
    go_enter Tryz.func90, Tryz.ntmps90
    go_wp2
    go_ret
    exact ⟨by rw [E.out]; rfl, (Below.refl _ _).alloc (Nat.le_refl _) _⟩
  · have E := Lib.hid (show covRow 3 = ⟨#[43, 43, 46, 43, 46, 46, 46]⟩ by decide +kernel)
    go_enter Tryz.func90, Tryz.ntmps90
    go_wp2
    go_ret
    exact ⟨by rw [E.out]; rfl, (Below.refl _ _).alloc (Nat.le_refl _) _⟩
  · have E := Lib.hid (show covRow 4 = ⟨#[43, 43, 43, 43, 43, 46, 46]⟩ by decide +kernel)
    go_enter Tryz.func90, Tryz.ntmps90
    go_wp2
    go_ret
    exact ⟨by rw [E.out]; rfl, (Below.refl _ _).alloc (Nat.le_refl _) _⟩
  · have E := Lib.hid (show covRow 5 = ⟨#[43, 43, 46, 43, 46, 43, 46]⟩ by decide +kernel)
    go_enter Tryz.func90, Tryz.ntmps90
    go_wp2
    go_ret
    exact ⟨by rw [E.out]; rfl, (Below.refl _ _).alloc (Nat.le_refl _) _⟩
  · have E := Lib.hid (show covRow 6 = ⟨#[43, 43, 43, 43, 43, 43, 43]⟩ by decide +kernel)
    go_enter Tryz.func90, Tryz.ntmps90
    go_wp2
    go_ret
    exact ⟨by rw [E.out]; rfl, (Below.refl _ _).alloc (Nat.le_refl _) _⟩
theorem signs_at (f : Nat → Bool) (b : Nat) (hb : b < 7) (h : b < (signs f).size) : (((signs f)[b].toNat : Int) == 43) = f b := by
  have : b = 0 ∨ b = 1 ∨ b = 2 ∨ b = 3 ∨ b = 4 ∨ b = 5 ∨ b = 6 := by omega
  rcases this with rfl | rfl | rfl | rfl | rfl | rfl | rfl
  · show (((pl (f 0)).toNat : Int) == 43) = f 0
    cases f 0 <;> rfl
  · show (((pl (f 1)).toNat : Int) == 43) = f 1
    cases f 1 <;> rfl
  · show (((pl (f 2)).toNat : Int) == 43) = f 2
    cases f 2 <;> rfl
  · show (((pl (f 3)).toNat : Int) == 43) = f 3
    cases f 3 <;> rfl
  · show (((pl (f 4)).toNat : Int) == 43) = f 4
    cases f 4 <;> rfl
  · show (((pl (f 5)).toNat : Int) == 43) = f 5
    cases f 5 <;> rfl
  · show (((pl (f 6)).toNat : Int) == 43) = f 6
    cases f 6 <;> rfl
theorem compatR_any (a b : Int) (w : World) : Calls Tryz.prog 39 #[.int .i64 a, .int .i64 b] w fun e w' => e = .returned (.bool (comB a b)) ∧ Below w.heap.size w w' := by
  have Ka := Lib.hid (fun W => knownR_any a W)
  have Kb := Lib.hid (fun W => knownR_any b W)
  cases ha : knownB a with
  | false =>
    rw [show comB a b = false by simp [comB, tabB, ha]]
    rw [ha] at Ka
    go_enter Tryz.func39, Tryz.ntmps39
    go_wp2_with fail
    refine (Ka.out _).mono ?_
    rintro e w' ⟨rfl, rfl⟩
    go_wp2_with fail
    go_ret
    exact ⟨rfl, Below.refl _ _⟩
  | true =>
    rw [ha] at Ka
    cases hb : knownB b with
    | false =>
      rw [show comB a b = false by simp [comB, tabB, hb]]
      rw [hb] at Kb
      go_enter Tryz.func39, Tryz.ntmps39
      go_wp2_with fail
      refine (Ka.out _).mono ?_
      rintro e w' ⟨rfl, rfl⟩
      go_wp2_with fail
      refine (Kb.out _).mono ?_
      rintro e w' ⟨rfl, rfl⟩
      go_wp2_with fail
      go_ret
      exact ⟨rfl, Below.refl _ _⟩
    | true =>
      rw [hb] at Kb
      obtain ⟨i, rfl, hi⟩ := known_nat ha
      obtain ⟨j, rfl, hj⟩ := known_nat hb
      have R := Lib.hid (fun W => row_any i hi W)
      have hz : (comRow i).size = 7 := rfl
      have hA := Lib.hid (fun h => signs_at (fun b => comB i b) j hj h)
      have i1 : (0 : Int) ≤ (j : Int) := by omega
      have i2 : (j : Int) < 7 := by omega
      go_enter Tryz.func39, Tryz.ntmps39
      go_wp2_with fail
      refine (Ka.out _).mono ?_
      rintro e w' ⟨rfl, rfl⟩
      go_wp2_with fail
      refine (Kb.out _).mono ?_
      rintro e w' ⟨rfl, rfl⟩
      go_wp2_with fail
      refine (R.out _).mono ?_
      rintro e w1 ⟨rfl, b1⟩
      go_wp2_with fail
      go_ret
      refine ⟨?_, b1⟩
      rw [← hA.out (by show j < 7; exact hj)]
      rfl
theorem coversR_any (a b : Int) (w : World) : Calls Tryz.prog 76 #[.int .i64 a, .int .i64 b] w fun e w' => e = .returned (.bool (covB a b)) ∧ Below w.heap.size w w' := by
  have Ka := Lib.hid (fun W => knownR_any a W)
  have Kb := Lib.hid (fun W => knownR_any b W)
  cases ha : knownB a with
  | false =>
    rw [show covB a b = false by simp [covB, tabB, ha]]
    rw [ha] at Ka
    go_enter Tryz.func76, Tryz.ntmps76
    go_wp2_with fail
    refine (Ka.out _).mono ?_
    rintro e w' ⟨rfl, rfl⟩
    go_wp2_with fail
    go_ret
    exact ⟨rfl, Below.refl _ _⟩
  | true =>
    rw [ha] at Ka
    cases hb : knownB b with
    | false =>
      rw [show covB a b = false by simp [covB, tabB, hb]]
      rw [hb] at Kb
      go_enter Tryz.func76, Tryz.ntmps76
      go_wp2_with fail
      refine (Ka.out _).mono ?_
      rintro e w' ⟨rfl, rfl⟩
      go_wp2_with fail
      refine (Kb.out _).mono ?_
      rintro e w' ⟨rfl, rfl⟩
      go_wp2_with fail
      go_ret
      exact ⟨rfl, Below.refl _ _⟩
    | true =>
      rw [hb] at Kb
      obtain ⟨i, rfl, hi⟩ := known_nat ha
      obtain ⟨j, rfl, hj⟩ := known_nat hb
      have R := Lib.hid (fun W => under_any i hi W)
      have hz : (covRow i).size = 7 := rfl
      have hA := Lib.hid (fun h => signs_at (fun b => covB i b) j hj h)
      have i1 : (0 : Int) ≤ (j : Int) := by omega
      have i2 : (j : Int) < 7 := by omega
      go_enter Tryz.func76, Tryz.ntmps76
      go_wp2_with fail
      refine (Ka.out _).mono ?_
      rintro e w' ⟨rfl, rfl⟩
      go_wp2_with fail
      refine (Kb.out _).mono ?_
      rintro e w' ⟨rfl, rfl⟩
      go_wp2_with fail
      refine (R.out _).mono ?_
      rintro e w1 ⟨rfl, b1⟩
      go_wp2_with fail
      go_ret
      refine ⟨?_, b1⟩
      rw [← hA.out (by show j < 7; exact hj)]
      rfl
end Go.Proofs.YtmacpjnkmkaloaaGreat
