/-
  A clock's due timers, one after the other. No condition beside a clock that New made.
-/
import Derived.Test.YtcbjgibcgalppaaTkF
import Derived.Test.YtcbjgibcgalppaaRSep
namespace Go.Proofs.Ytcbjgibcgalppaa
open Go.RowKit Go.Shelf
attribute [local go_sem] Oper.semAt_some
theorem tw_spec (q : Tm → Bool) : ∀ (L : List Tm) (k : Nat), k ≤ (L.takeWhile q).length → (match L.drop k with | [] => k = (L.takeWhile q).length | x :: _ => if q x = true then k < (L.takeWhile q).length else k = (L.takeWhile q).length)
  | [], k, h => by
    simp at h
    subst h
    rfl
  | y :: L, k, h => by
    rw [List.takeWhile_cons] at h ⊢
    cases hq : q y with
    | true =>
      rw [hq, if_pos rfl] at h
      rw [if_pos rfl]
      cases k with
      | zero => simp [hq]
      | succ k =>
        have ih := tw_spec q L k (by simpa using h)
        rw [List.drop_succ_cons, List.length_cons]
        split <;> rename_i e <;> rw [e] at ih <;> simp only at ih
        · omega
        · split <;> rename_i e2
          · rw [if_pos e2] at ih; omega
          · rw [if_neg e2] at ih; omega
    | false =>
      rw [hq, if_neg (by simp)] at h
      rw [if_neg (by simp)]
      have : k = 0 := by simpa using h
      subst this
      simp [hq]
/-- How many timers a clock at p has. -/
def clkLen (wr : World) (p : Nat) : Nat := match wr.cell? ⟨p, 1, none⟩ with | some (.slice _ n _) => n | _ => 0
theorem clkLen_eq {w : World} {p : Nat} {now : Int} {fa : Option Addr} {n c : Nat} {rs : List Res} (h : Sep w (cBlk p now (.slice fa n c) :: rs)) : clkLen w p = n := by
  unfold clkLen
  rw [h.b2.2.2.1]
theorem clkLen_clock {w : World} {p : Nat} {now : Int} {L : List Tm} {rs : List Res} (h : Sep w (clockR p now L :: rs)) : clkLen w p = L.length := by
  obtain ⟨_, _, _, _, _, h1⟩ := clock_open h
  exact clkLen_eq h1
set_option maxRecDepth 100000 in
set_option maxHeartbeats 4000000 in
theorem due1_in (n : Nat) (hn : 1 ≤ n) (l Bc p : Nat) (now : Int) (L : List Tm) (R : Nat → List Res) (hL : L.length ≤ 900)
    (hY : ∀ (k : Nat) (x : Tm) (W : World), k < (L.takeWhile fun t : Tm => decide (t.1 ≤ now)).length → L[k]? = some x → Sep W (clockR p now (L.drop (k + 1)) :: blk Bc 26 #[.pointer (some ⟨p, 0, none⟩)] :: R k) →
      YieldAt Fence.wide (n - 1) Try.prog l #[tV x] W fun e W' => e = .returned (.bool true) ∧ Sep W' (clockR p now (L.drop (k + 1)) :: blk Bc 26 #[.pointer (some ⟨p, 0, none⟩)] :: R (k + 1)))
    (W : World) (h0 : Sep W (clockR p now L :: blk Bc 26 #[.pointer (some ⟨p, 0, none⟩)] :: R 0)) :
    CallsIn Fence.wide n Try.prog 37 #[.func (.yield l) #[] #[], .pointer (some ⟨Bc, 0, none⟩)] W fun e W' => (∃ v, e = .returned v) ∧
      Sep W' (clockR p now (L.drop (L.takeWhile fun t : Tm => decide (t.1 ≤ now)).length) :: blk Bc 26 #[.pointer (some ⟨p, 0, none⟩)] :: R (L.takeWhile fun t : Tm => decide (t.1 ≤ now)).length) := by
  replace h0 := Lib.hid h0
  have hspec := Lib.hid (tw_spec (fun t : Tm => decide (t.1 ≤ now)) L)
  generalize (L.takeWhile fun t : Tm => decide (t.1 ≤ now)).length = m at *
  refine callsIn_of_wp Try.func37 rfl trivial ?_ rfl
  simp only [Try.ntmps37, List.size_toArray, List.length_cons, List.length_nil, Nat.reduceAdd, Nat.reduceSub, Array.replicate_succ, Array.replicate_zero, List.push_toArray, List.append_toArray, List.nil_append, List.cons_append]
  gi_wp2
  gi_loopw [3] (fun _ wr => ∃ k : Nat, k ≤ m ∧ Hid (Sep wr (clockR p now (L.drop k) :: blk Bc 26 #[.pointer (some ⟨p, 0, none⟩)] :: R k)))
    (fun _ wr => clkLen wr p)
  case atStart => exact ⟨0, Nat.zero_le _, h0⟩
  case round =>
    obtain ⟨k, hk, hS⟩ := hrel
    obtain ⟨fa, c, xs, hok, hl, hS⟩ := clock_open hS.out
    replace hS := Lib.hid hS
    have hsp := hspec.out k hk
    cases hM : L.drop k with
    | nil =>
      rw [hM] at hsp hok hl hS
      simp only at hsp
      clear hk
      subst hsp
      replace hok := Lib.hid hok
      replace hM := Lib.hid hM
      clear hl
      rw [show ([] : List Tm).length = 0 from rfl] at hS
      gi_wp2
      refine wpIn_wide.2 ?_
      have hS := Lib.hid (show (fun V : World => Sep V (cBlk p now (.slice fa 0 c) :: tVec (.slice fa 0 c) 0 xs :: blk Bc 26 #[.pointer (some ⟨p, 0, none⟩)] :: R k)) _ from hS.out.drew)
      refine hl_begin (fun V : World => Sep V (cBlk p now (.slice fa 0 c) :: tVec (.slice fa 0 c) 0 xs :: blk Bc 26 #[.pointer (some ⟨p, 0, none⟩)] :: R k)) [(0, true), (1, true), (2, true), (3, true), (4, true), (5, true), (6, true), (7, true), (8, true), (9, true), (10, true), (11, true), (12, true), (13, true), (14, true), (15, true), (16, true), (17, true), (18, true), (19, true)] (by kernel_rfl) (by kernel_rfl) (by kernel_rfl) rfl (fun _ _ _ _ _ h => h) hS.out ?_
      change HL _ _ _ _ _ _ (World.drew _)
      generalize World.drew _ = wd at *
      refine hl_take ?v1 rfl (by kernel_rfl) ?y1 ?z1
      case y1 => intro W hW; obtain ⟨_, c0, c1, _⟩ := (show Sep _ _ from hW).b2; obtain ⟨_, e0, _⟩ := (show Sep _ _ from hW).to2.b1; replace hW := Lib.hid hW; go_simp; try rfl
      case z1 =>
      simp only [Act.put, List.setIfInBounds_toArray, List.set_cons_succ, List.set_cons_zero, List.getElem_toArray, List.getElem_cons_zero]
      refine hl_take ?v2 rfl (by kernel_rfl) ?y2 ?z2
      case y2 => intro W hW; skip; replace hW := Lib.hid hW; go_simp; try rfl
      case z2 =>
      simp only [Act.put, List.setIfInBounds_toArray, List.set_cons_succ, List.set_cons_zero, List.getElem_toArray, List.getElem_cons_zero, List.getElem_cons_succ]
      refine hl_take ?v3 rfl (by kernel_rfl) ?y3 ?z3
      case y3 => intro W hW; skip; replace hW := Lib.hid hW; go_simp; try rfl
      case z3 =>
      simp only [Act.put, List.setIfInBounds_toArray, List.set_cons_succ, List.set_cons_zero, List.getElem_toArray, List.getElem_cons_zero, List.getElem_cons_succ]
      refine hl_take ?v4 rfl (by kernel_rfl) ?y4 ?z4
      case y4 => intro W hW; obtain ⟨_, c0, c1, _⟩ := (show Sep _ _ from hW).b2; obtain ⟨_, e0, _⟩ := (show Sep _ _ from hW).to2.b1; replace hW := Lib.hid hW; go_simp; try rfl
      case z4 =>
      simp only [Act.put, List.setIfInBounds_toArray, List.set_cons_succ, List.set_cons_zero, List.getElem_toArray, List.getElem_cons_zero, List.getElem_cons_succ]
      refine hl_take ?v5 rfl (by kernel_rfl) ?y5 ?z5
      case y5 => intro W hW; skip; replace hW := Lib.hid hW; go_simp; try rfl
      case z5 =>
      simp only [Act.put, List.setIfInBounds_toArray, List.set_cons_succ, List.set_cons_zero, List.getElem_toArray, List.getElem_cons_zero, List.getElem_cons_succ]
      refine hl_take ?v6 rfl (by kernel_rfl) ?y6 ?z6
      case y6 => intro W hW; skip; replace hW := Lib.hid hW; go_simp; try rfl
      case z6 =>
      simp only [Act.put, List.setIfInBounds_toArray, List.set_cons_succ, List.set_cons_zero, List.getElem_toArray, List.getElem_cons_zero, List.getElem_cons_succ]
      refine hl_take ?v7 rfl (by kernel_rfl) ?y7 ?z7
      case y7 => intro W hW; skip; replace hW := Lib.hid hW; go_simp; try rfl
      case z7 =>
      simp only [Act.put, List.setIfInBounds_toArray, List.set_cons_succ, List.set_cons_zero, List.getElem_toArray, List.getElem_cons_zero, List.getElem_cons_succ]
      refine hl_skip rfl (by kernel_rfl) ?_
      simp only [Act.put, List.setIfInBounds_toArray, List.set_cons_succ, List.set_cons_zero, List.getElem_toArray, List.getElem_cons_zero, List.getElem_cons_succ]
      refine hl_skip rfl (by kernel_rfl) ?_
      simp only [Act.put, List.setIfInBounds_toArray, List.set_cons_succ, List.set_cons_zero, List.getElem_toArray, List.getElem_cons_zero, List.getElem_cons_succ]
      refine hl_skip rfl (by kernel_rfl) ?_
      simp only [Act.put, List.setIfInBounds_toArray, List.set_cons_succ, List.set_cons_zero, List.getElem_toArray, List.getElem_cons_zero, List.getElem_cons_succ]
      refine hl_skip rfl (by kernel_rfl) ?_
      simp only [Act.put, List.setIfInBounds_toArray, List.set_cons_succ, List.set_cons_zero, List.getElem_toArray, List.getElem_cons_zero, List.getElem_cons_succ]
      refine hl_skip rfl (by kernel_rfl) ?_
      simp only [Act.put, List.setIfInBounds_toArray, List.set_cons_succ, List.set_cons_zero, List.getElem_toArray, List.getElem_cons_zero, List.getElem_cons_succ]
      refine hl_skip rfl (by kernel_rfl) ?_
      simp only [Act.put, List.setIfInBounds_toArray, List.set_cons_succ, List.set_cons_zero, List.getElem_toArray, List.getElem_cons_zero, List.getElem_cons_succ]
      refine hl_skip rfl (by kernel_rfl) ?_
      simp only [Act.put, List.setIfInBounds_toArray, List.set_cons_succ, List.set_cons_zero, List.getElem_toArray, List.getElem_cons_zero, List.getElem_cons_succ]
      refine hl_skip rfl (by kernel_rfl) ?_
      simp only [Act.put, List.setIfInBounds_toArray, List.set_cons_succ, List.set_cons_zero, List.getElem_toArray, List.getElem_cons_zero, List.getElem_cons_succ]
      refine hl_skip rfl (by kernel_rfl) ?_
      simp only [Act.put, List.setIfInBounds_toArray, List.set_cons_succ, List.set_cons_zero, List.getElem_toArray, List.getElem_cons_zero, List.getElem_cons_succ]
      refine hl_skip rfl (by kernel_rfl) ?_
      simp only [Act.put, List.setIfInBounds_toArray, List.set_cons_succ, List.set_cons_zero, List.getElem_toArray, List.getElem_cons_zero, List.getElem_cons_succ]
      refine hl_skip rfl (by kernel_rfl) ?_
      simp only [Act.put, List.setIfInBounds_toArray, List.set_cons_succ, List.set_cons_zero, List.getElem_toArray, List.getElem_cons_zero, List.getElem_cons_succ]
      refine hl_skip rfl (by kernel_rfl) ?_
      simp only [Act.put, List.setIfInBounds_toArray, List.set_cons_succ, List.set_cons_zero, List.getElem_toArray, List.getElem_cons_zero, List.getElem_cons_succ]
      refine hl_take ?v8 rfl (by kernel_rfl) ?y8 ?z8
      case y8 => intro W hW; skip; replace hW := Lib.hid hW; go_simp; try rfl
      case z8 =>
      simp only [Act.put, List.setIfInBounds_toArray, List.set_cons_succ, List.set_cons_zero, List.getElem_toArray, List.getElem_cons_zero, List.getElem_cons_succ]
      refine hl_done ?_
      gi_wp2
      go_end0
      rw [hM.out]
      exact ⟨⟨_, rfl⟩, clock_close (fa := fa) (c := c) (xs := xs) hok.out hS.out⟩

    | cons x M =>
      rw [hM] at hsp hok hl hS
      simp only at hsp
      obtain ⟨hh, hok2, hl2⟩ := head_ok hok
      rw [show (x :: M).length = M.length + 1 from rfl] at hS hl
      obtain ⟨g, rfl⟩ := vec_some hS.out.to1 (by omega)
      have hheap := Lib.hid hok.heap
      have hW0 := Lib.hid (clkLen_eq hS.out)
      have hg0 := Lib.hid hh
      replace hok2 := Lib.hid hok2
      have hokX := Lib.hid hok
      replace hM := Lib.hid hM
      clear hok hh hl2
      have n1 : (0 : Int) < ((M.length + 1 : Nat) : Int) := by omega
      have n2 : ((M.length + 1 : Nat) : Int) = (M.length : Int) + 1 := by omega
      obtain ⟨x0, x1, x2⟩ := x
      by_cases hle : x0 ≤ now
      · rw [decide_eq_true hle, if_pos rfl] at hsp
        gi_wp2
        refine wpIn_wide.2 ?_
        have hS := Lib.hid (show (fun V : World => Sep V (cBlk p now (.slice (some ⟨g, 0, none⟩) (M.length + 1) c) :: tVec (.slice (some ⟨g, 0, none⟩) (M.length + 1) c) (M.length + 1) xs :: blk Bc 26 #[.pointer (some ⟨p, 0, none⟩)] :: R k)) _ from hS.out.drew)
        refine hl_begin (fun V : World => Sep V (cBlk p now (.slice (some ⟨g, 0, none⟩) (M.length + 1) c) :: tVec (.slice (some ⟨g, 0, none⟩) (M.length + 1) c) (M.length + 1) xs :: blk Bc 26 #[.pointer (some ⟨p, 0, none⟩)] :: R k)) [(0, true), (1, true), (2, true), (3, true), (4, true), (5, true), (6, true), (7, true), (8, true), (9, true), (10, true), (11, true), (12, true), (13, true), (14, true), (15, true), (16, true), (17, true), (18, true), (19, true)] (by kernel_rfl) (by kernel_rfl) (by kernel_rfl) rfl (fun _ _ _ _ _ h => h) hS.out ?_
        change HL _ _ _ _ _ _ (World.drew _)
        generalize World.drew _ = wd at *
        refine hl_take ?v29 rfl (by kernel_rfl) ?y29 ?z29
        case y29 => intro W hW; obtain ⟨_, c0, c1, _⟩ := (show Sep _ _ from hW).b2; obtain ⟨_, e0, _⟩ := (show Sep _ _ from hW).to2.b1; obtain ⟨⟨z0, _, _⟩, _, _⟩ := (show Sep _ _ from hW).to1.tAt 0 (by omega); rw [hg0.out] at z0; simp only [Nat.zero_mul] at z0; replace hW := Lib.hid hW; go_simp; try rfl
        case z29 =>
        simp only [Act.put, List.setIfInBounds_toArray, List.set_cons_succ, List.set_cons_zero, List.getElem_toArray, List.getElem_cons_zero]
        refine hl_take ?v30 rfl (by kernel_rfl) ?y30 ?z30
        case y30 => intro W hW; skip; replace hW := Lib.hid hW; go_simp; try rfl
        case z30 =>
        simp only [Act.put, List.setIfInBounds_toArray, List.set_cons_succ, List.set_cons_zero, List.getElem_toArray, List.getElem_cons_zero, List.getElem_cons_succ]
        refine hl_take ?v31 rfl (by kernel_rfl) ?y31 ?z31
        case y31 => intro W hW; skip; replace hW := Lib.hid hW; go_simp; try rfl
        case z31 =>
        simp only [Act.put, List.setIfInBounds_toArray, List.set_cons_succ, List.set_cons_zero, List.getElem_toArray, List.getElem_cons_zero, List.getElem_cons_succ]
        refine hl_take ?v32 rfl (by kernel_rfl) ?y32 ?z32
        case y32 => intro W hW; obtain ⟨_, c0, c1, _⟩ := (show Sep _ _ from hW).b2; obtain ⟨_, e0, _⟩ := (show Sep _ _ from hW).to2.b1; obtain ⟨⟨z0, _, _⟩, _, _⟩ := (show Sep _ _ from hW).to1.tAt 0 (by omega); rw [hg0.out] at z0; simp only [Nat.zero_mul] at z0; replace hW := Lib.hid hW; go_simp; try rfl
        case z32 =>
        simp only [Act.put, List.setIfInBounds_toArray, List.set_cons_succ, List.set_cons_zero, List.getElem_toArray, List.getElem_cons_zero, List.getElem_cons_succ]
        refine hl_take ?v33 rfl (by kernel_rfl) ?y33 ?z33
        case y33 => intro W hW; skip; replace hW := Lib.hid hW; go_simp; try rfl
        case z33 =>
        simp only [Act.put, List.setIfInBounds_toArray, List.set_cons_succ, List.set_cons_zero, List.getElem_toArray, List.getElem_cons_zero, List.getElem_cons_succ]
        refine hl_take ?v34 rfl (by kernel_rfl) ?y34 ?z34
        case y34 => intro W hW; skip; replace hW := Lib.hid hW; go_simp; try rfl
        case z34 =>
        simp only [Act.put, List.setIfInBounds_toArray, List.set_cons_succ, List.set_cons_zero, List.getElem_toArray, List.getElem_cons_zero, List.getElem_cons_succ]
        refine hl_take ?v35 rfl (by kernel_rfl) ?y35 ?z35
        case y35 => intro W hW; skip; replace hW := Lib.hid hW; go_simp; try rfl
        case z35 =>
        simp only [Act.put, List.setIfInBounds_toArray, List.set_cons_succ, List.set_cons_zero, List.getElem_toArray, List.getElem_cons_zero, List.getElem_cons_succ]
        refine hl_take ?v36 rfl (by kernel_rfl) ?y36 ?z36
        case y36 => intro W hW; obtain ⟨_, c0, c1, _⟩ := (show Sep _ _ from hW).b2; obtain ⟨_, e0, _⟩ := (show Sep _ _ from hW).to2.b1; obtain ⟨⟨z0, _, _⟩, _, _⟩ := (show Sep _ _ from hW).to1.tAt 0 (by omega); rw [hg0.out] at z0; simp only [Nat.zero_mul] at z0; replace hW := Lib.hid hW; go_simp; try rfl
        case z36 =>
        simp only [Act.put, List.setIfInBounds_toArray, List.set_cons_succ, List.set_cons_zero, List.getElem_toArray, List.getElem_cons_zero, List.getElem_cons_succ]
        refine hl_take ?v37 rfl (by kernel_rfl) ?y37 ?z37
        case y37 => intro W hW; skip; replace hW := Lib.hid hW; go_simp; try rfl
        case z37 =>
        simp only [Act.put, List.setIfInBounds_toArray, List.set_cons_succ, List.set_cons_zero, List.getElem_toArray, List.getElem_cons_zero, List.getElem_cons_succ]
        refine hl_take ?v38 rfl (by kernel_rfl) ?y38 ?z38
        case y38 => intro W hW; skip; replace hW := Lib.hid hW; go_simp; try rfl
        case z38 =>
        simp only [Act.put, List.setIfInBounds_toArray, List.set_cons_succ, List.set_cons_zero, List.getElem_toArray, List.getElem_cons_zero, List.getElem_cons_succ]
        refine hl_take ?v39 rfl (by kernel_rfl) ?y39 ?z39
        case y39 => intro W hW; obtain ⟨_, c0, c1, _⟩ := (show Sep _ _ from hW).b2; obtain ⟨_, e0, _⟩ := (show Sep _ _ from hW).to2.b1; obtain ⟨⟨z0, _, _⟩, _, _⟩ := (show Sep _ _ from hW).to1.tAt 0 (by omega); rw [hg0.out] at z0; simp only [Nat.zero_mul] at z0; replace hW := Lib.hid hW; go_simp; try rfl
        case z39 =>
        simp only [Act.put, List.setIfInBounds_toArray, List.set_cons_succ, List.set_cons_zero, List.getElem_toArray, List.getElem_cons_zero, List.getElem_cons_succ]
        refine hl_take ?v40 rfl (by kernel_rfl) ?y40 ?z40
        case y40 => intro W hW; skip; replace hW := Lib.hid hW; go_simp; try rfl
        case z40 =>
        simp only [Act.put, List.setIfInBounds_toArray, List.set_cons_succ, List.set_cons_zero, List.getElem_toArray, List.getElem_cons_zero, List.getElem_cons_succ]
        refine hl_take ?v41 rfl (by kernel_rfl) ?y41 ?z41
        case y41 => intro W hW; skip; replace hW := Lib.hid hW; go_simp; try rfl
        case z41 =>
        simp only [Act.put, List.setIfInBounds_toArray, List.set_cons_succ, List.set_cons_zero, List.getElem_toArray, List.getElem_cons_zero, List.getElem_cons_succ]
        refine hl_take ?v42 rfl (by kernel_rfl) ?y42 ?z42
        case y42 => intro W hW; obtain ⟨_, c0, c1, _⟩ := (show Sep _ _ from hW).b2; obtain ⟨_, e0, _⟩ := (show Sep _ _ from hW).to2.b1; obtain ⟨⟨z0, _, _⟩, _, _⟩ := (show Sep _ _ from hW).to1.tAt 0 (by omega); rw [hg0.out] at z0; simp only [Nat.zero_mul] at z0; replace hW := Lib.hid hW; go_simp; try rfl
        case z42 =>
        simp only [Act.put, List.setIfInBounds_toArray, List.set_cons_succ, List.set_cons_zero, List.getElem_toArray, List.getElem_cons_zero, List.getElem_cons_succ]
        refine hl_take ?v43 rfl (by kernel_rfl) ?y43 ?z43
        case y43 => intro W hW; obtain ⟨_, c0, c1, _⟩ := (show Sep _ _ from hW).b2; obtain ⟨_, e0, _⟩ := (show Sep _ _ from hW).to2.b1; obtain ⟨⟨z0, _, _⟩, _, _⟩ := (show Sep _ _ from hW).to1.tAt 0 (by omega); rw [hg0.out] at z0; simp only [Nat.zero_mul] at z0; replace hW := Lib.hid hW; go_simp; try rfl
        case z43 =>
        simp only [Act.put, List.setIfInBounds_toArray, List.set_cons_succ, List.set_cons_zero, List.getElem_toArray, List.getElem_cons_zero, List.getElem_cons_succ]
        refine hl_take ?v44 rfl (by kernel_rfl) ?y44 ?z44
        case y44 => intro W hW; skip; replace hW := Lib.hid hW; go_simp; try rfl
        case z44 =>
        simp only [Act.put, List.setIfInBounds_toArray, List.set_cons_succ, List.set_cons_zero, List.getElem_toArray, List.getElem_cons_zero, List.getElem_cons_succ]
        refine hl_take ?v45 rfl (by kernel_rfl) ?y45 ?z45
        case y45 => intro W hW; skip; replace hW := Lib.hid hW; go_simp; try rfl
        case z45 =>
        simp only [Act.put, List.setIfInBounds_toArray, List.set_cons_succ, List.set_cons_zero, List.getElem_toArray, List.getElem_cons_zero, List.getElem_cons_succ]
        refine hl_take ?v46 rfl (by kernel_rfl) ?y46 ?z46
        case y46 => intro W hW; obtain ⟨_, c0, c1, _⟩ := (show Sep _ _ from hW).b2; obtain ⟨_, e0, _⟩ := (show Sep _ _ from hW).to2.b1; obtain ⟨⟨z0, _, _⟩, _, _⟩ := (show Sep _ _ from hW).to1.tAt 0 (by omega); rw [hg0.out] at z0; simp only [Nat.zero_mul] at z0; replace hW := Lib.hid hW; go_simp; try rfl
        case z46 =>
        simp only [Act.put, List.setIfInBounds_toArray, List.set_cons_succ, List.set_cons_zero, List.getElem_toArray, List.getElem_cons_zero, List.getElem_cons_succ]
        refine hl_take ?v47 rfl (by kernel_rfl) ?y47 ?z47
        case y47 => intro W hW; skip; replace hW := Lib.hid hW; go_simp; try rfl
        case z47 =>
        simp only [Act.put, List.setIfInBounds_toArray, List.set_cons_succ, List.set_cons_zero, List.getElem_toArray, List.getElem_cons_zero, List.getElem_cons_succ]
        refine hl_take ?v48 rfl (by kernel_rfl) ?y48 ?z48
        case y48 => intro W hW; skip; replace hW := Lib.hid hW; go_simp; try rfl
        case z48 =>
        simp only [Act.put, List.setIfInBounds_toArray, List.set_cons_succ, List.set_cons_zero, List.getElem_toArray, List.getElem_cons_zero, List.getElem_cons_succ]
        refine hl_done ?_
        have hdr := Lib.hid (show L.drop (k + 1) = M by rw [← List.drop_drop, hM.out]; rfl)
        have hLk := Lib.hid (show L[k]? = some (x0, x1, x2) by have h := List.getElem?_drop (xs := L) (i := k) (j := 0); rw [hM.out] at h; simpa using h.symm)
        have HP := Lib.hid (fun V hV => hpop_any p g M.length c now xs V (blk Bc 26 #[.pointer (some ⟨p, 0, none⟩)] :: R k) hV hl (by have := congrArg List.length hdr.out; rw [List.length_drop] at this; omega) hheap.out)
        rw [hg0.out] at HP
        simp only [tV] at HP
        have ta := fun W => assert_t (x0, x1, x2) W
        simp only [tV] at ta
        obtain ⟨_, e0, _⟩ := hS.out.to2.b1
        have hsz := Lib.hid (show (L.drop (k + 1)).length < M.length + 1 by rw [hdr.out]; omega)
        clear hspec hM hokX hheap hg0 hl h0 hk
        gi_wp2_with (refine ⟨trivial, ?_⟩; gi_at_call 38; refine (callsIn_wide.2 (HP.out _ hS.out)).mono ?_; rintro e w' ⟨rfl, hS2⟩; have hY2 := hY k (x0, x1, x2) _ hsp hLk.out (by rw [hdr.out]; exact (clock_close (fa := some ⟨g, 0, none⟩) (c := c) hok2.out hS2).allocG (.cells #[.int .i64 x0, .int .i64 x1, .int .i64 x2] 61)); obtain ⟨fn, tmps, assign, body, hy, hR⟩ := hY2; simp only [tV] at hy; replace hS2 := Lib.hid hS2)
        refine hR.mono ?_
        rintro e W3 ⟨rfl, hS3⟩
        have hz3 := clkLen_clock hS3
        replace hS3 := Lib.hid hS3
        gi_wp2
        go_roundw
        case rel => exact ⟨k + 1, by omega, hS3⟩
        case measure => rw [hz3, hW0.out]; exact hsz.out
      · rw [decide_eq_false hle, if_neg (by simp)] at hsp
        clear hk
        subst hsp
        have hokF := Lib.hid hokX.out
        gi_wp2
        refine wpIn_wide.2 ?_
        have hS := Lib.hid (show (fun V : World => Sep V (cBlk p now (.slice (some ⟨g, 0, none⟩) (M.length + 1) c) :: tVec (.slice (some ⟨g, 0, none⟩) (M.length + 1) c) (M.length + 1) xs :: blk Bc 26 #[.pointer (some ⟨p, 0, none⟩)] :: R k)) _ from hS.out.drew)
        refine hl_begin (fun V : World => Sep V (cBlk p now (.slice (some ⟨g, 0, none⟩) (M.length + 1) c) :: tVec (.slice (some ⟨g, 0, none⟩) (M.length + 1) c) (M.length + 1) xs :: blk Bc 26 #[.pointer (some ⟨p, 0, none⟩)] :: R k)) [(0, true), (1, true), (2, true), (3, true), (4, true), (5, true), (6, true), (7, true), (8, true), (9, true), (10, true), (11, true), (12, true), (13, true), (14, true), (15, true), (16, true), (17, true), (18, true), (19, true)] (by kernel_rfl) (by kernel_rfl) (by kernel_rfl) rfl (fun _ _ _ _ _ h => h) hS.out ?_
        change HL _ _ _ _ _ _ (World.drew _)
        generalize World.drew _ = wd at *
        refine hl_take ?v9 rfl (by kernel_rfl) ?y9 ?z9
        case y9 => intro W hW; obtain ⟨_, c0, c1, _⟩ := (show Sep _ _ from hW).b2; obtain ⟨_, e0, _⟩ := (show Sep _ _ from hW).to2.b1; obtain ⟨⟨z0, _, _⟩, _, _⟩ := (show Sep _ _ from hW).to1.tAt 0 (by omega); rw [hg0.out] at z0; simp only [Nat.zero_mul] at z0; replace hW := Lib.hid hW; go_simp; try rfl
        case z9 =>
        simp only [Act.put, List.setIfInBounds_toArray, List.set_cons_succ, List.set_cons_zero, List.getElem_toArray, List.getElem_cons_zero]
        refine hl_take ?v10 rfl (by kernel_rfl) ?y10 ?z10
        case y10 => intro W hW; skip; replace hW := Lib.hid hW; go_simp; try rfl
        case z10 =>
        simp only [Act.put, List.setIfInBounds_toArray, List.set_cons_succ, List.set_cons_zero, List.getElem_toArray, List.getElem_cons_zero, List.getElem_cons_succ]
        refine hl_take ?v11 rfl (by kernel_rfl) ?y11 ?z11
        case y11 => intro W hW; skip; replace hW := Lib.hid hW; go_simp; try rfl
        case z11 =>
        simp only [Act.put, List.setIfInBounds_toArray, List.set_cons_succ, List.set_cons_zero, List.getElem_toArray, List.getElem_cons_zero, List.getElem_cons_succ]
        refine hl_take ?v12 rfl (by kernel_rfl) ?y12 ?z12
        case y12 => intro W hW; obtain ⟨_, c0, c1, _⟩ := (show Sep _ _ from hW).b2; obtain ⟨_, e0, _⟩ := (show Sep _ _ from hW).to2.b1; obtain ⟨⟨z0, _, _⟩, _, _⟩ := (show Sep _ _ from hW).to1.tAt 0 (by omega); rw [hg0.out] at z0; simp only [Nat.zero_mul] at z0; replace hW := Lib.hid hW; go_simp; try rfl
        case z12 =>
        simp only [Act.put, List.setIfInBounds_toArray, List.set_cons_succ, List.set_cons_zero, List.getElem_toArray, List.getElem_cons_zero, List.getElem_cons_succ]
        refine hl_take ?v13 rfl (by kernel_rfl) ?y13 ?z13
        case y13 => intro W hW; skip; replace hW := Lib.hid hW; go_simp; try rfl
        case z13 =>
        simp only [Act.put, List.setIfInBounds_toArray, List.set_cons_succ, List.set_cons_zero, List.getElem_toArray, List.getElem_cons_zero, List.getElem_cons_succ]
        refine hl_take ?v14 rfl (by kernel_rfl) ?y14 ?z14
        case y14 => intro W hW; skip; replace hW := Lib.hid hW; go_simp; try rfl
        case z14 =>
        simp only [Act.put, List.setIfInBounds_toArray, List.set_cons_succ, List.set_cons_zero, List.getElem_toArray, List.getElem_cons_zero, List.getElem_cons_succ]
        refine hl_take ?v15 rfl (by kernel_rfl) ?y15 ?z15
        case y15 => intro W hW; skip; replace hW := Lib.hid hW; go_simp; try rfl
        case z15 =>
        simp only [Act.put, List.setIfInBounds_toArray, List.set_cons_succ, List.set_cons_zero, List.getElem_toArray, List.getElem_cons_zero, List.getElem_cons_succ]
        refine hl_take ?v16 rfl (by kernel_rfl) ?y16 ?z16
        case y16 => intro W hW; obtain ⟨_, c0, c1, _⟩ := (show Sep _ _ from hW).b2; obtain ⟨_, e0, _⟩ := (show Sep _ _ from hW).to2.b1; obtain ⟨⟨z0, _, _⟩, _, _⟩ := (show Sep _ _ from hW).to1.tAt 0 (by omega); rw [hg0.out] at z0; simp only [Nat.zero_mul] at z0; replace hW := Lib.hid hW; go_simp; try rfl
        case z16 =>
        simp only [Act.put, List.setIfInBounds_toArray, List.set_cons_succ, List.set_cons_zero, List.getElem_toArray, List.getElem_cons_zero, List.getElem_cons_succ]
        refine hl_take ?v17 rfl (by kernel_rfl) ?y17 ?z17
        case y17 => intro W hW; skip; replace hW := Lib.hid hW; go_simp; try rfl
        case z17 =>
        simp only [Act.put, List.setIfInBounds_toArray, List.set_cons_succ, List.set_cons_zero, List.getElem_toArray, List.getElem_cons_zero, List.getElem_cons_succ]
        refine hl_take ?v18 rfl (by kernel_rfl) ?y18 ?z18
        case y18 => intro W hW; skip; replace hW := Lib.hid hW; go_simp; try rfl
        case z18 =>
        simp only [Act.put, List.setIfInBounds_toArray, List.set_cons_succ, List.set_cons_zero, List.getElem_toArray, List.getElem_cons_zero, List.getElem_cons_succ]
        refine hl_take ?v19 rfl (by kernel_rfl) ?y19 ?z19
        case y19 => intro W hW; obtain ⟨_, c0, c1, _⟩ := (show Sep _ _ from hW).b2; obtain ⟨_, e0, _⟩ := (show Sep _ _ from hW).to2.b1; obtain ⟨⟨z0, _, _⟩, _, _⟩ := (show Sep _ _ from hW).to1.tAt 0 (by omega); rw [hg0.out] at z0; simp only [Nat.zero_mul] at z0; replace hW := Lib.hid hW; go_simp; try rfl
        case z19 =>
        simp only [Act.put, List.setIfInBounds_toArray, List.set_cons_succ, List.set_cons_zero, List.getElem_toArray, List.getElem_cons_zero, List.getElem_cons_succ]
        refine hl_take ?v20 rfl (by kernel_rfl) ?y20 ?z20
        case y20 => intro W hW; skip; replace hW := Lib.hid hW; go_simp; try rfl
        case z20 =>
        simp only [Act.put, List.setIfInBounds_toArray, List.set_cons_succ, List.set_cons_zero, List.getElem_toArray, List.getElem_cons_zero, List.getElem_cons_succ]
        refine hl_take ?v21 rfl (by kernel_rfl) ?y21 ?z21
        case y21 => intro W hW; skip; replace hW := Lib.hid hW; go_simp; try rfl
        case z21 =>
        simp only [Act.put, List.setIfInBounds_toArray, List.set_cons_succ, List.set_cons_zero, List.getElem_toArray, List.getElem_cons_zero, List.getElem_cons_succ]
        refine hl_take ?v22 rfl (by kernel_rfl) ?y22 ?z22
        case y22 => intro W hW; obtain ⟨_, c0, c1, _⟩ := (show Sep _ _ from hW).b2; obtain ⟨_, e0, _⟩ := (show Sep _ _ from hW).to2.b1; obtain ⟨⟨z0, _, _⟩, _, _⟩ := (show Sep _ _ from hW).to1.tAt 0 (by omega); rw [hg0.out] at z0; simp only [Nat.zero_mul] at z0; replace hW := Lib.hid hW; go_simp; try rfl
        case z22 =>
        simp only [Act.put, List.setIfInBounds_toArray, List.set_cons_succ, List.set_cons_zero, List.getElem_toArray, List.getElem_cons_zero, List.getElem_cons_succ]
        refine hl_take ?v23 rfl (by kernel_rfl) ?y23 ?z23
        case y23 => intro W hW; obtain ⟨_, c0, c1, _⟩ := (show Sep _ _ from hW).b2; obtain ⟨_, e0, _⟩ := (show Sep _ _ from hW).to2.b1; obtain ⟨⟨z0, _, _⟩, _, _⟩ := (show Sep _ _ from hW).to1.tAt 0 (by omega); rw [hg0.out] at z0; simp only [Nat.zero_mul] at z0; replace hW := Lib.hid hW; go_simp; try rfl
        case z23 =>
        simp only [Act.put, List.setIfInBounds_toArray, List.set_cons_succ, List.set_cons_zero, List.getElem_toArray, List.getElem_cons_zero, List.getElem_cons_succ]
        refine hl_take ?v24 rfl (by kernel_rfl) ?y24 ?z24
        case y24 => intro W hW; skip; replace hW := Lib.hid hW; go_simp; try rfl
        case z24 =>
        simp only [Act.put, List.setIfInBounds_toArray, List.set_cons_succ, List.set_cons_zero, List.getElem_toArray, List.getElem_cons_zero, List.getElem_cons_succ]
        refine hl_take ?v25 rfl (by kernel_rfl) ?y25 ?z25
        case y25 => intro W hW; skip; replace hW := Lib.hid hW; go_simp; try rfl
        case z25 =>
        simp only [Act.put, List.setIfInBounds_toArray, List.set_cons_succ, List.set_cons_zero, List.getElem_toArray, List.getElem_cons_zero, List.getElem_cons_succ]
        refine hl_take ?v26 rfl (by kernel_rfl) ?y26 ?z26
        case y26 => intro W hW; obtain ⟨_, c0, c1, _⟩ := (show Sep _ _ from hW).b2; obtain ⟨_, e0, _⟩ := (show Sep _ _ from hW).to2.b1; obtain ⟨⟨z0, _, _⟩, _, _⟩ := (show Sep _ _ from hW).to1.tAt 0 (by omega); rw [hg0.out] at z0; simp only [Nat.zero_mul] at z0; replace hW := Lib.hid hW; go_simp; try rfl
        case z26 =>
        simp only [Act.put, List.setIfInBounds_toArray, List.set_cons_succ, List.set_cons_zero, List.getElem_toArray, List.getElem_cons_zero, List.getElem_cons_succ]
        refine hl_take ?v27 rfl (by kernel_rfl) ?y27 ?z27
        case y27 => intro W hW; skip; replace hW := Lib.hid hW; go_simp; try rfl
        case z27 =>
        simp only [Act.put, List.setIfInBounds_toArray, List.set_cons_succ, List.set_cons_zero, List.getElem_toArray, List.getElem_cons_zero, List.getElem_cons_succ]
        refine hl_take ?v28 rfl (by kernel_rfl) ?y28 ?z28
        case y28 => intro W hW; skip; replace hW := Lib.hid hW; go_simp; try rfl
        case z28 =>
        simp only [Act.put, List.setIfInBounds_toArray, List.set_cons_succ, List.set_cons_zero, List.getElem_toArray, List.getElem_cons_zero, List.getElem_cons_succ]
        refine hl_done ?_
        gi_wp2
        go_end0
        exact ⟨⟨_, rfl⟩, by rw [hM.out]; exact clock_close (fa := some ⟨g, 0, none⟩) (c := c) (xs := xs) hokF.out hS.out⟩
end Go.Proofs.Ytcbjgibcgalppaa
