/-
  Contracts of the package stripe: Spread, Same. No condition.
-/
import Derived.Test.YtgbffkjfjkfiaaaDoorStS
namespace Go.Proofs.YtgbffkjfjkfiaaaDoor
open Go.RowKit
/-- The value v is a slice of names that reads as l. -/
def RN (w : World) (v : Value) (l : List (Int × Int)) : Prop :=
  ∃ a c, v = .slice a l.length c ∧ (0 < l.length → ∃ b off, a = some ⟨b, off, none⟩ ∧ b < w.heap.size ∧ ∀ j, j < l.length →
    w.cell? ⟨b, off + j * 2, none⟩ = some (.int .i64 (l.getD j (0, 0)).1) ∧ w.cell? ⟨b, off + j * 2 + 1, none⟩ = some (.int .i64 (l.getD j (0, 0)).2))
theorem RN.below {w w' : World} {v : Value} {l : List (Int × Int)} (h : RN w v l) (hb : Below w.heap.size w w') : RN w' v l := by
  obtain ⟨a, c, hv, hr⟩ := h
  refine ⟨a, c, hv, fun h0 => ?_⟩
  obtain ⟨b, off, ha, hlt, hc⟩ := hr h0
  exact ⟨b, off, ha, Nat.lt_of_lt_of_le hlt hb.size, fun j hj => ⟨(hb.cell (p := ⟨b, off + j * 2, none⟩) hlt).trans (hc j hj).1, (hb.cell (p := ⟨b, off + j * 2 + 1, none⟩) hlt).trans (hc j hj).2⟩⟩
/-- How many names each stripe has. -/
def cntL (z : List (Int × Int)) (s : Int) (n : Nat) : List Int := (List.range n).map fun (j : Nat) => ((z.filter fun x => ofV x.1 x.2 s == (j : Int)).length : Int)
theorem cntL_len (z : List (Int × Int)) (s : Int) (n : Nat) : (cntL z s n).length = n := by simp [cntL]
theorem cntL_get (z : List (Int × Int)) (s : Int) (n j : Nat) (h : j < n) : (cntL z s n).getD j 0 = ((z.filter fun x => ofV x.1 x.2 s == (j : Int)).length : Int) := by
  simp [cntL, List.getD, h]
theorem cntL_nil (s : Int) (n : Nat) : cntL [] s n = List.replicate n 0 := by
  apply List.ext_getElem
  · simp [cntL]
  · intro i h1 h2
    simp [cntL]
theorem cnt_miss (z : List (Int × Int)) (x : Int × Int) (s : Int) (n : Nat) (h : ofV x.1 x.2 s < 0) : cntL (z ++ [x]) s n = cntL z s n := by
  unfold cntL
  apply List.map_congr_left
  intro j hj
  rw [List.filter_append]
  have : (ofV x.1 x.2 s == (j : Int)) = false := by rw [beq_eq_false_iff_ne]; omega
  simp [this]
theorem cnt_hit (z : List (Int × Int)) (x : Int × Int) (s : Int) (n j : Nat) (h : ofV x.1 x.2 s = (j : Int)) (hj : j < n) : cntL (z ++ [x]) s n = (cntL z s n).set j ((cntL z s n).getD j 0 + 1) := by
  rw [cntL_get _ _ _ _ hj]
  apply List.ext_getElem
  · simp [cntL]
  · intro i h1 h2
    rw [List.getElem_set]
    simp only [cntL, List.getElem_map, List.getElem_range, List.filter_append]
    by_cases hij : j = i
    · subst hij
      simp [h]
    · rw [if_neg hij]
      have : (ofV x.1 x.2 s == (i : Int)) = false := by rw [beq_eq_false_iff_ne, h]; omega
      simp [this]
theorem cntL_le (z : List (Int × Int)) (s : Int) (n j : Nat) : 0 ≤ (cntL z s n).getD j 0 ∧ (cntL z s n).getD j 0 ≤ z.length := by
  by_cases h : j < n
  · rw [cntL_get _ _ _ _ h]
    have := List.length_filter_le (fun x => ofV x.1 x.2 s == (j : Int)) z
    omega
  · rw [List.getD, List.getElem?_eq_none (by rw [cntL_len]; omega)]
    simp
theorem take_snocN (l : List (Int × Int)) (k : Nat) (h : k < l.length) : l.take (k + 1) = l.take k ++ [l.getD k (0, 0)] := by
  rw [List.take_succ_eq_append_getElem h]
  simp [List.getD, h]
/-- Integers of the call's own. -/
def vi (v : Value) (l : List Int) : Res := vec 3 1 v l.length (l.map (Value.int .i64))
theorem Sep.vi_new {w : World} {rs : List Res} (h : Sep w rs) (n : Nat) (hn : n ≤ 1000) : Sep (w.alloc (.cells (madeCells #[Value.int .i64 0] n) 3)) (vi (.slice (some ⟨w.heap.size, 0, none⟩) n n) (List.replicate n 0) :: rs) := by
  have h1 := h.alloc (madeCells #[Value.int .i64 0] n) 3
  unfold vi
  rw [List.length_replicate]
  refine h1.blk_vec (by simp) (Nat.le_refl _) (by unfold maxLen; omega) (by rw [size_madeCells, Nat.mul_one]) ?_
  rw [toList_madeCells_one]
  simp
theorem Sep.vi_at {w : World} {a : Option Addr} {m c j : Nat} {l : List Int} {rs : List Res} (h : Sep w (vi (.slice a m c) l :: rs)) (hl : l.length = m) (hj : j < m) :
    ∃ g, a = some ⟨g, 0, none⟩ ∧ g < w.heap.size ∧ w.cell? ⟨g, j, none⟩ = some (.int .i64 (l.getD j 0)) ∧ w.frozen? ⟨g, j, none⟩ = false := by
  subst hl
  unfold vi at h
  rcases h.gvec.2 with ⟨_, h0⟩ | ⟨g, cap, cur, hv, _⟩
  · omega
  · injection hv with e1 _ e3
    subst e1 e3
    have hk : (l.map (Value.int .i64))[j]? = some (.int .i64 (l.getD j 0)) := by simp [List.getD, hj]
    obtain ⟨a1, a2, a3⟩ := h.vec_cell hk
    exact ⟨g, rfl, a3, a1, a2⟩
theorem Sep.vi_set {w : World} {g m c j : Nat} {l : List Int} {rs : List Res} (h : Sep w (vi (.slice (some ⟨g, 0, none⟩) m c) l :: rs)) (hl : l.length = m) (hj : j < m) (x : Int) :
    Sep (w.setCell ⟨g, j, none⟩ (.int .i64 x)) (vi (.slice (some ⟨g, 0, none⟩) m c) (l.set j x) :: rs) := by
  subst hl
  unfold vi at h ⊢
  rw [List.length_set, List.map_set]
  exact h.vec_set (by simpa using hj) _
theorem info_intS : (Tryd.prog.info? 3).map (fun i => (i.zero, i.size, i.bytes)) = some (some (.int .i64 0), 1, 8) := by kernel_rfl
theorem spread_no (v : Value) (s : Int) (w : World) (hs : ¬(1 ≤ s ∧ s ≤ 16)) : Calls Tryd.prog 9 #[v, .int .i64 s] w fun e w' => e = .returned (.slice none 0 0) ∧ w = w' := by
  have HM := Lib.hid (fun W => may_any s W)
  rw [decide_eq_false hs] at HM
  clear hs
  go_enter Tryd.func9, Tryd.ntmps9
  go_wp2_with fail
  refine (HM.out _).mono ?_
  rintro e w1 ⟨rfl, rfl⟩
  go_wp2_with fail
  go_ret
  exact ⟨rfl, rfl⟩
set_option maxHeartbeats 1000000 in
theorem spread_any (v : Value) (z : List (Int × Int)) (s : Nat) (h1 : 1 ≤ s) (h2 : s ≤ 16) (w : World) (hv : RN w v z) (hl : z.length ≤ 100) :
    Calls Tryd.prog 9 #[v, .int .i64 s] w fun e w' => ∃ g, e = .returned (.slice (some ⟨g, 0, none⟩) s s) ∧ Sep w' [vi (.slice (some ⟨g, 0, none⟩) s s) (cntL z s s), old w] := by
  have HM := Lib.hid (fun W => may_any s W)
  rw [decide_eq_true (show (1 : Int) ≤ (s : Int) ∧ (s : Int) ≤ 16 by omega)] at HM
  obtain ⟨i0, hi, hz0, hz1, hz2⟩ := info_parts info_intS
  have hmk := fun W => run_make_rowN (P := Tryd.prog) 25 3 i0 _ Tryd.underlying25 hi hz0 .i64 .i64 s s (Nat.le_refl _) (by rw [hz2]; omega) (by omega) W
  rw [hz1] at hmk
  clear hi hz0 hz1 hz2
  have hS := Lib.hid ((Sep.start w).vi_new s (by omega))
  obtain ⟨a, c, rfl, hr⟩ := hv
  have HR := Lib.hid hr
  clear hr
  generalize hn : z.length = n at *
  replace hn := Lib.hid hn
  obtain ⟨g, hg⟩ : ∃ g, g = w.heap.size := ⟨_, rfl⟩
  rw [← hg] at hS
  go_enter Tryd.func9, Tryd.ntmps9
  go_wp2_with fail
  refine (HM.out _).mono ?_
  rintro e w1 ⟨rfl, rfl⟩
  go_wp2_with fail
  rw [← hg]
  replace hg := Lib.hid hg
  clear hmk HM
  go_loopw [16] (fun i wr => ∃ k : Nat, k ≤ n ∧ i = .int .i64 k ∧ Hid (Sep wr [vi (.slice (some ⟨g, 0, none⟩) s s) (cntL (z.take k) s s), old w])) (fun i _ => n - (intOf i).toNat)
  case atStart => exact ⟨0, Nat.zero_le _, rfl, by rw [List.take_zero, cntL_nil]; exact hS⟩
  case round =>
    clear hS
    obtain ⟨k, hk, rfl, hS⟩ := hrel
    by_cases hlt : k < n
    · obtain ⟨b, off, rfl, hbl, hz⟩ := HR.out (by omega)
      obtain ⟨z0, z1⟩ := hz k hlt
      rw [← hS.out.tail.gold.cell (p := ⟨b, off + k * 2, none⟩) hbl] at z0
      rw [← hS.out.tail.gold.cell (p := ⟨b, off + k * 2 + 1, none⟩) hbl] at z1
      have E := Lib.hid (take_snocN z k (by rw [hn.out]; exact hlt))
      have hcl := cntL_le (z.take k) s s
      have htl : (z.take k).length ≤ 100 := by rw [List.length_take]; omega
      generalize z.getD k (0, 0) = x at *
      clear hz HR
      obtain ⟨t, r⟩ := x
      have i1 : (0 : Int) ≤ (k : Int) := by omega
      have i2 : (k : Int) < (n : Int) := by omega
      simp only at z0 z1
      have HO := Lib.hid (fun W => of_any t r s W)
      have hbd := ofV_bd t r s
      by_cases ho : ofV t r s < 0
      · have EC := Lib.hid (show cntL (z.take (k + 1)) s s = cntL (z.take k) s s by rw [E.out]; exact cnt_miss _ (t, r) _ _ ho)
        generalize ofV t r s = o at *
        replace hS := Lib.hid (hS.out.allocG (.cells #[Value.int .i64 (t), Value.int .i64 (r)] 29))
        clear hbd hcl htl
        go_wp2_with fail
        refine (HO.out _).mono ?_
        rintro e w2 ⟨rfl, b2⟩
        replace hS := Lib.hid (hS.out.below b2)
        clear b2
        go_wp2_with fail
        go_roundw
        case rel => exact ⟨k + 1, by omega, by go_num, by rw [EC.out]; exact hS⟩
        case measure => simp [intOf]; omega
      · obtain ⟨j, hj⟩ : ∃ j : Nat, ofV t r s = (j : Int) := ⟨(ofV t r s).toNat, by omega⟩
        have hjs : j < s := by omega
        have EC := Lib.hid (show cntL (z.take (k + 1)) s s = (cntL (z.take k) s s).set j ((cntL (z.take k) s s).getD j 0 + 1) by rw [E.out]; exact cnt_hit _ (t, r) _ _ j hj hjs)
        rw [hj] at HO
        clear ho hbd hj
        replace hcl := hcl j
        replace hS := Lib.hid (hS.out.allocG (.cells #[Value.int .i64 (t), Value.int .i64 (r)] 29))
        go_wp2_with fail
        refine (HO.out _).mono ?_
        rintro e w2 ⟨rfl, b2⟩
        replace hS := Lib.hid (hS.out.below b2)
        clear b2
        obtain ⟨g', hg', hgl, q, fz⟩ := hS.out.vi_at (cntL_len _ _ _) hjs
        injection hg' with hg'
        injection hg' with hg'
        subst hg'
        have hlen := Lib.hid (cntL_len (z.take k) s s)
        generalize cntL (z.take k) s s = L at *
        replace hS := Lib.hid (hS.out.vi_set hlen.out hjs (L.getD j 0 + 1))
        generalize L.getD j 0 = y at *
        have j1 : (0 : Int) ≤ (j : Int) := by omega
        have j2 : (j : Int) < (s : Int) := by omega
        go_wp2_with fail
        go_roundw
        case rel => exact ⟨k + 1, by omega, by go_num, by rw [EC.out]; exact hS⟩
        case measure => simp [intOf]; omega
    · have hk2 : k = n := by omega
      have E := Lib.hid (show z.take k = z from List.take_of_length_le (by rw [hn.out]; omega))
      go_wp2_with fail
      go_ret
      exact ⟨g, rfl, by rw [← E.out]; exact hS.out⟩
end Go.Proofs.YtgbffkjfjkfiaaaDoor
