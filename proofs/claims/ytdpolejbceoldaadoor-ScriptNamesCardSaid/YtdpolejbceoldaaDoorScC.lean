/-
  The contract of Check: may a script be? No condition beside a script that can be read.
-/
import Derived.Test.YtdpolejbceoldaaDoorScT
import Derived.Laws.EntriesVeiled
namespace Go.Proofs.YtdpolejbceoldaaDoor
set_option linter.unusedSimpArgs false
set_option linter.unusedVariables false
set_option linter.unnecessarySimpa false
open Go.RowKit
/-- Where the first one is that meets p; -1. -/
def idxF {α : Type} (p : α → Bool) : List α → Nat → Int
  | [], _ => -1
  | x :: l, k => if p x then (k : Int) else idxF p l (k + 1)
theorem idxF_any {α : Type} (p : α → Bool) : ∀ (l : List α) (k : Nat), decide (0 ≤ idxF p l k) = l.any p
  | [], k => by simp [idxF]
  | x :: l, k => by
    unfold idxF
    cases h : p x with
    | true => simp [h]
    | false => simp [h, idxF_any p l (k + 1)]
def val_opx : Oq → Value := fun x => match x with | ⟨kk, tt, rr, mm, vv, ww⟩ => .agg #[.int .i64 kk, .int .i64 tt, .int .i64 rr, .int .i64 mm, .int .i64 vv, .int .i64 ww]
def Pred_opx (g : Nat) (lb : Array Value) (p : Oq → Bool) (l : List Oq) (w : World) : Prop :=
  ∀ (W : World) (x : Oq), x ∈ l → Below w.heap.size w W → Calls Tryd.prog g (#[val_opx x] ++ lb) W fun e w' => e = .returned (.bool (p x)) ∧ Below W.heap.size W w'
theorem cells_opx {w : World} {a : Option Addr} {n c : Nat} {l : List Oq} (hv : RL w (.slice a n c) 6 n (l.flatMap oC)) (hn : l.length = n) (h0 : 0 < n) : ∃ b off, a = some ⟨b, off, none⟩ ∧ b < w.heap.size ∧ ∀ k x, l[k]? = some x → ∀ j u, (oC x)[j]? = some u → w.cell? ⟨b, off + (k * 6 + j), none⟩ = some u := by
  subst hn
  obtain ⟨b, off, c', hv', _, hb, h⟩ := RL.at_ oC_len hv h0
  injection hv' with e1 _ _
  exact ⟨b, off, e1, hb, h⟩
set_option maxHeartbeats 1000000 in
theorem index_opx (v : Value) (l : List Oq) (g : Nat) (lb : Array Value) (p : Oq → Bool) (w : World) (hv : RL w v 6 l.length (l.flatMap oC)) (hl : l.length ≤ 100000) (hp : Pred_opx g lb p l w)
    (eg : ∀ args w, (callFunc g args).run Tryd.prog w = .ok (.enter g args) w) :
    Calls Tryd.prog 52 #[v, .func (.func g) #[] lb] w fun e w' => e = .returned (.int .i64 (idxF p l 0)) ∧ Below w.heap.size w w' := by
  have hv2 := hv
  obtain ⟨_, a, c, rfl, _⟩ := hv
  have HP := Lib.hid hp
  clear hp
  generalize hn : l.length = n at *
  replace hn := Lib.hid hn
  replace hv2 := Lib.hid hv2
  go_enter Tryd.func52, Tryd.ntmps52
  go_wp2
  go_loopw [8] (fun i wr => ∃ k : Nat, k ≤ n ∧ i = .int .i64 k ∧ Hid (idxF p l 0 = idxF p (l.drop k) k) ∧ Hid (Below w.heap.size w wr)) (fun i _ => n - (intOf i).toNat)
  case atStart => exact ⟨0, Nat.zero_le _, rfl, rfl, Below.refl _ _⟩
  case round =>
    obtain ⟨k, hk, rfl, he, hb⟩ := hrel
    by_cases hlt : k < n
    · obtain ⟨b, off, rfl, hbl, hz⟩ := cells_opx hv2.out hn.out (by omega)
      obtain ⟨x, hx⟩ : ∃ x, l[k]? = some x := ⟨l[k]'(by rw [hn.out]; exact hlt), List.getElem?_eq_getElem _⟩
      have hz := hz k x hx
      have z0 := (hb.out.cell (p := ⟨b, off + k * 6, none⟩) hbl).trans (hz 0 _ rfl)
      have z1 := (hb.out.cell (p := ⟨b, off + k * 6 + 1, none⟩) hbl).trans (hz 1 _ rfl)
      have z2 := (hb.out.cell (p := ⟨b, off + k * 6 + 2, none⟩) hbl).trans (hz 2 _ rfl)
      have z3 := (hb.out.cell (p := ⟨b, off + k * 6 + 3, none⟩) hbl).trans (hz 3 _ rfl)
      have z4 := (hb.out.cell (p := ⟨b, off + k * 6 + 4, none⟩) hbl).trans (hz 4 _ rfl)
      have z5 := (hb.out.cell (p := ⟨b, off + k * 6 + 5, none⟩) hbl).trans (hz 5 _ rfl)
      have E := Lib.hid (show l.drop k = x :: l.drop (k + 1) by
        obtain ⟨h1, h2⟩ := List.getElem?_eq_some_iff.1 hx
        rw [List.drop_eq_getElem_cons h1, h2])
      have hq := Lib.hid (HP.out wr x (List.mem_of_getElem? hx) hb.out)
      have i1 : (0 : Int) ≤ (k : Int) := by omega
      have i2 : (k : Int) < (n : Int) := by omega
      clear hz hx
      obtain ⟨kk, tt, rr, mm, vv, ww⟩ := x
      simp only at z0 z1 z2 z3 z4 z5
      simp only [val_opx] at hq
      go_wp2_with fail
      refine hq.out.mono ?_
      rintro e w1 ⟨rfl, b1⟩
      replace hb := Lib.hid (hb.out.trans (b1.mono hb.out.size))
      clear z0 z1 z2 z3 z4 z5 b1 hq
      cases hpr : p ⟨kk, tt, rr, mm, vv, ww⟩ with
      | true =>
        have E2 := Lib.hid (show idxF p l 0 = (k : Int) by rw [he.out, E.out]; simp only [idxF, hpr, if_true])
        go_wp2_with fail
        go_ret
        exact ⟨by rw [E2.out]; rfl, hb.out⟩
      | false =>
        have E2 := Lib.hid (show idxF p l 0 = idxF p (l.drop (k + 1)) (k + 1) by rw [he.out, E.out]; simp only [idxF, hpr]; rfl)
        go_wp2_with fail
        go_roundw
        case rel => exact ⟨k + 1, by omega, by go_num, E2, hb⟩
        case measure => simp [intOf]; omega
    · have hk2 : k = n := by omega
      have E := Lib.hid (show idxF p l 0 = -1 by rw [he.out, List.drop_eq_nil_of_le (by rw [hn.out]; omega)]; rfl)
      clear he
      go_wp2_with fail
      go_ret
      exact ⟨by rw [E.out]; rfl, hb.out⟩
theorem contains_opx (v : Value) (l : List Oq) (g : Nat) (lb : Array Value) (p : Oq → Bool) (w : World) (hv : RL w v 6 l.length (l.flatMap oC)) (hl : l.length ≤ 100000) (hp : Pred_opx g lb p l w)
    (eg : ∀ args w, (callFunc g args).run Tryd.prog w = .ok (.enter g args) w) :
    Calls Tryd.prog 41 #[v, .func (.func g) #[] lb] w fun e w' => e = .returned (.bool (l.any p)) ∧ Below w.heap.size w w' := by
  have H := Lib.hid (index_opx v l g lb p w hv hl hp eg)
  obtain ⟨_, a, c, rfl, _⟩ := hv
  rw [← idxF_any p l 0]
  clear hp eg
  generalize idxF p l 0 = x at *
  go_enter Tryd.func41, Tryd.ntmps41
  go_wp2_with fail
  refine H.out.mono ?_
  rintro e w1 ⟨rfl, b1⟩
  replace b1 := Lib.hid b1
  go_wp2_with fail
  go_ret
  exact ⟨rfl, b1.out⟩
def val_pkx : (Int × Int) → Value := fun x => match x with | ⟨kk, uu⟩ => .agg #[.int .i64 kk, .int .i64 uu]
def Pred_pkx (g : Nat) (lb : Array Value) (p : (Int × Int) → Bool) (l : List (Int × Int)) (w : World) : Prop :=
  ∀ (W : World) (x : (Int × Int)), x ∈ l → Below w.heap.size w W → Calls Tryd.prog g (#[val_pkx x] ++ lb) W fun e w' => e = .returned (.bool (p x)) ∧ Below W.heap.size W w'
theorem cells_pkx {w : World} {a : Option Addr} {n c : Nat} {l : List (Int × Int)} (hv : RL w (.slice a n c) 2 n (l.flatMap pC)) (hn : l.length = n) (h0 : 0 < n) : ∃ b off, a = some ⟨b, off, none⟩ ∧ b < w.heap.size ∧ ∀ k x, l[k]? = some x → ∀ j u, (pC x)[j]? = some u → w.cell? ⟨b, off + (k * 2 + j), none⟩ = some u := by
  subst hn
  obtain ⟨b, off, c', hv', _, hb, h⟩ := RL.at_ pC_len hv h0
  injection hv' with e1 _ _
  exact ⟨b, off, e1, hb, h⟩
set_option maxHeartbeats 1000000 in
theorem index_pkx (v : Value) (l : List (Int × Int)) (g : Nat) (lb : Array Value) (p : (Int × Int) → Bool) (w : World) (hv : RL w v 2 l.length (l.flatMap pC)) (hl : l.length ≤ 100000) (hp : Pred_pkx g lb p l w)
    (eg : ∀ args w, (callFunc g args).run Tryd.prog w = .ok (.enter g args) w) :
    Calls Tryd.prog 53 #[v, .func (.func g) #[] lb] w fun e w' => e = .returned (.int .i64 (idxF p l 0)) ∧ Below w.heap.size w w' := by
  have hv2 := hv
  obtain ⟨_, a, c, rfl, _⟩ := hv
  have HP := Lib.hid hp
  clear hp
  generalize hn : l.length = n at *
  replace hn := Lib.hid hn
  replace hv2 := Lib.hid hv2
  go_enter Tryd.func53, Tryd.ntmps53
  go_wp2
  go_loopw [8] (fun i wr => ∃ k : Nat, k ≤ n ∧ i = .int .i64 k ∧ Hid (idxF p l 0 = idxF p (l.drop k) k) ∧ Hid (Below w.heap.size w wr)) (fun i _ => n - (intOf i).toNat)
  case atStart => exact ⟨0, Nat.zero_le _, rfl, rfl, Below.refl _ _⟩
  case round =>
    obtain ⟨k, hk, rfl, he, hb⟩ := hrel
    by_cases hlt : k < n
    · obtain ⟨b, off, rfl, hbl, hz⟩ := cells_pkx hv2.out hn.out (by omega)
      obtain ⟨x, hx⟩ : ∃ x, l[k]? = some x := ⟨l[k]'(by rw [hn.out]; exact hlt), List.getElem?_eq_getElem _⟩
      have hz := hz k x hx
      have z0 := (hb.out.cell (p := ⟨b, off + k * 2, none⟩) hbl).trans (hz 0 _ rfl)
      have z1 := (hb.out.cell (p := ⟨b, off + k * 2 + 1, none⟩) hbl).trans (hz 1 _ rfl)
      have E := Lib.hid (show l.drop k = x :: l.drop (k + 1) by
        obtain ⟨h1, h2⟩ := List.getElem?_eq_some_iff.1 hx
        rw [List.drop_eq_getElem_cons h1, h2])
      have hq := Lib.hid (HP.out wr x (List.mem_of_getElem? hx) hb.out)
      have i1 : (0 : Int) ≤ (k : Int) := by omega
      have i2 : (k : Int) < (n : Int) := by omega
      clear hz hx
      obtain ⟨kk, uu⟩ := x
      simp only at z0 z1
      simp only [val_pkx] at hq
      go_wp2_with fail
      refine hq.out.mono ?_
      rintro e w1 ⟨rfl, b1⟩
      replace hb := Lib.hid (hb.out.trans (b1.mono hb.out.size))
      clear z0 z1 b1 hq
      cases hpr : p ⟨kk, uu⟩ with
      | true =>
        have E2 := Lib.hid (show idxF p l 0 = (k : Int) by rw [he.out, E.out]; simp only [idxF, hpr, if_true])
        go_wp2_with fail
        go_ret
        exact ⟨by rw [E2.out]; rfl, hb.out⟩
      | false =>
        have E2 := Lib.hid (show idxF p l 0 = idxF p (l.drop (k + 1)) (k + 1) by rw [he.out, E.out]; simp only [idxF, hpr]; rfl)
        go_wp2_with fail
        go_roundw
        case rel => exact ⟨k + 1, by omega, by go_num, E2, hb⟩
        case measure => simp [intOf]; omega
    · have hk2 : k = n := by omega
      have E := Lib.hid (show idxF p l 0 = -1 by rw [he.out, List.drop_eq_nil_of_le (by rw [hn.out]; omega)]; rfl)
      clear he
      go_wp2_with fail
      go_ret
      exact ⟨by rw [E.out]; rfl, hb.out⟩
theorem contains_pkx (v : Value) (l : List (Int × Int)) (g : Nat) (lb : Array Value) (p : (Int × Int) → Bool) (w : World) (hv : RL w v 2 l.length (l.flatMap pC)) (hl : l.length ≤ 100000) (hp : Pred_pkx g lb p l w)
    (eg : ∀ args w, (callFunc g args).run Tryd.prog w = .ok (.enter g args) w) :
    Calls Tryd.prog 42 #[v, .func (.func g) #[] lb] w fun e w' => e = .returned (.bool (l.any p)) ∧ Below w.heap.size w w' := by
  have H := Lib.hid (index_pkx v l g lb p w hv hl hp eg)
  obtain ⟨_, a, c, rfl, _⟩ := hv
  rw [← idxF_any p l 0]
  clear hp eg
  generalize idxF p l 0 = x at *
  go_enter Tryd.func42, Tryd.ntmps42
  go_wp2_with fail
  refine H.out.mono ?_
  rintro e w1 ⟨rfl, b1⟩
  replace b1 := Lib.hid b1
  go_wp2_with fail
  go_ret
  exact ⟨rfl, b1.out⟩
theorem enters_bad : ∀ args w, (callFunc 39 args).run Tryd.prog w = .ok (.enter 39 args) w := enters_of Tryd.func39 (by kernel_rfl) rfl
theorem enters_badp : ∀ args w, (callFunc 43 args).run Tryd.prog w = .ok (.enter 43 args) w := enters_of Tryd.func43 (by kernel_rfl) rfl
theorem bad_any (x : Oq) (w : World) : Calls Tryd.prog 39 (#[val_opx x] ++ #[]) w fun e w' => e = .returned (.bool (!opB x)) ∧ Below w.heap.size w w' := by
  have HO := fun W => op_any x W
  obtain ⟨k, t, r, m, v, y⟩ := x
  simp only [oC] at HO
  show Calls Tryd.prog 39 #[.agg #[.int .i64 k, .int .i64 t, .int .i64 r, .int .i64 m, .int .i64 v, .int .i64 y]] w _
  have hS := Lib.hid (boxO w #[.int .i64 k, .int .i64 t, .int .i64 r, .int .i64 m, .int .i64 v, .int .i64 y])
  obtain ⟨_, c0, c1, c2, c3, c4, c5, _⟩ := hS.out.b6
  unfold opErr at HO
  cases hB : opB ⟨k, t, r, m, v, y⟩ with
  | true =>
    rw [hB] at HO
    simp only [if_true] at HO
    replace HO := Lib.hid HO
    clear hB
    go_enter Tryd.func39, Tryd.ntmps39
    go_wp2_with (go_at_call 13; refine (HO.out _).mono ?_; rintro e w2 ⟨rfl, q2⟩; replace hS := Lib.hid (hS.out.below q2); clear q2)
    go_ret
    exact ⟨rfl, hS.out.tail.gold⟩
  | false =>
    rw [hB] at HO
    simp only [Bool.false_eq_true, if_false] at HO
    replace HO := Lib.hid HO
    clear hB
    go_enter Tryd.func39, Tryd.ntmps39
    go_wp2_with (go_at_call 13; refine (HO.out _).mono ?_; rintro e w2 ⟨rfl, q2⟩; replace hS := Lib.hid (hS.out.below q2); clear q2)
    go_ret
    exact ⟨rfl, hS.out.tail.gold⟩
theorem badp_any (x : Int × Int) (w : World) : Calls Tryd.prog 43 (#[val_pkx x] ++ #[]) w fun e w' => e = .returned (.bool (!pkB x)) ∧ Below w.heap.size w w' := by
  obtain ⟨a, b⟩ := x
  show Calls Tryd.prog 43 #[.agg #[.int .i64 a, .int .i64 b]] w _
  have HO := Lib.hid (fun W => pk_any a b W)
  have hS := Lib.hid (boxP w #[.int .i64 a, .int .i64 b])
  obtain ⟨_, c0, c1, _⟩ := hS.out.b2
  go_enter Tryd.func43, Tryd.ntmps43
  go_wp2_with (go_at_call 44; refine (HO.out _).mono ?_; rintro e w2 ⟨rfl, q2⟩; replace hS := Lib.hid (hS.out.below q2); clear q2)
  go_ret
  exact ⟨rfl, hS.out.tail.gold⟩
def chkErr (S : Sc) : Int := if chkS S then 0 else 2
theorem chkErr_no {S : Sc} (h : ¬ (1 ≤ S.ths.length ∧ S.ths.length ≤ 8 ∧ S.pks.length ≤ 4096 ∧ capB S.c0 S.c1 S.c2 S.c3 = true ∧ (∀ t, (S.ths.getD t []).length ≤ 32 ∧ ∀ x ∈ S.ths.getD t [], opB x = true) ∧ ∀ p ∈ S.pks, pkB p = true)) : chkErr S = 2 := by
  unfold chkErr
  rw [if_neg]
  intro hc
  exact h ((chk_iff S).1 hc)
set_option maxHeartbeats 8000000 in
set_option maxRecDepth 100000 in
theorem check_any (tv pv : Value) (S : Sc) (vs : List Value) (w : World) (hm : ScSm S) (h : scR w tv pv S vs) :
    Calls Tryd.prog 18 #[.agg #[tv, pv, .int .i64 S.c0, .int .i64 S.c1, .int .i64 S.c2, .int .i64 S.c3]] w fun e w' => e = .returned (.int .i64 (chkErr S)) ∧ Below w.heap.size w w' := by
  obtain ⟨_, ta, tc, rfl, _⟩ := id h.th
  obtain ⟨_, pa, pc, rfl, _⟩ := id h.pk
  have EB : ¬(1 ≤ S.ths.length ∧ S.ths.length ≤ 8 ∧ S.pks.length ≤ 4096 ∧ capB S.c0 S.c1 S.c2 S.c3 = true) → chkErr S = 2 := fun hb => chkErr_no (fun hc => hb ⟨hc.1, hc.2.1, hc.2.2.1, hc.2.2.2.1⟩)
  have ET : ∀ k, ¬((S.ths.getD k []).length ≤ 32 ∧ (S.ths.getD k []).any (fun x => !opB x) = false) → chkErr S = 2 := fun k hb => chkErr_no (fun hc => hb ⟨(hc.2.2.2.2.1 k).1, by
    rw [List.any_eq_false]
    intro x hx
    rw [(hc.2.2.2.2.1 k).2 x hx]
    decide⟩)
  have EP : S.pks.any (fun x => !pkB x) = true → chkErr S = 2 := fun hb => chkErr_no (fun hc => by
    obtain ⟨x, hx, hx2⟩ := List.any_eq_true.1 hb
    rw [hc.2.2.2.2.2 x hx] at hx2
    exact absurd hx2 (by decide))
  have EY : 1 ≤ S.ths.length → S.ths.length ≤ 8 → S.pks.length ≤ 4096 → capB S.c0 S.c1 S.c2 S.c3 = true → (∀ k, k < S.ths.length → (S.ths.getD k []).length ≤ 32 ∧ (S.ths.getD k []).any (fun x => !opB x) = false) → S.pks.any (fun x => !pkB x) = false → chkErr S = 0 := fun a1 a2 a3 a4 a5 a6 => by
    unfold chkErr
    rw [if_pos]
    rw [chk_iff]
    refine ⟨a1, a2, a3, a4, fun t => ?_, fun q hq => ?_⟩
    · by_cases ht : t < S.ths.length
      · obtain ⟨b1, b2⟩ := a5 t ht
        refine ⟨b1, fun x hx => ?_⟩
        rw [List.any_eq_false] at b2
        have := b2 x hx
        simpa using this
      · rw [List.getD_eq_getElem?_getD, List.getElem?_eq_none (by omega)]
        simp
    · rw [List.any_eq_false] at a6
      have := a6 q hq
      simpa using this
  have HC := fun W => caps_any S.c0 S.c1 S.c2 S.c3 W
  have HP := Lib.hid (fun W (hb : Below w.heap.size w W) => contains_pkx _ S.pks 43 #[] (fun x => !pkB x) W (h.pk.below hb) hm.pk (fun W' x _ _ => badp_any x W') enters_badp)
  have hH := Lib.hid (fun k hk => h.hd (k := k) hk)
  have hT8 : S.ths.length ≤ 1000 := hm.th
  have hmo := Lib.hid hm.op
  obtain ⟨n, hn⟩ : ∃ n, S.ths.length = n := ⟨_, rfl⟩
  obtain ⟨np, hnp⟩ : ∃ n, S.pks.length = n := ⟨_, rfl⟩
  have hS0 := (Sep.start w).alloc #[.slice ta S.ths.length tc, .slice pa S.pks.length pc, .int .i64 S.c0, .int .i64 S.c1, .int .i64 S.c2, .int .i64 S.c3] 30
  rw [hnp] at EB EY hS0 HP ⊢
  rw [hn] at EB EY hS0 hH hT8 ⊢
  generalize chkErr S = cc at *
  generalize capB S.c0 S.c1 S.c2 S.c3 = cb at *
  generalize S.c0 = e0 at *
  generalize S.c1 = e1 at *
  generalize S.c2 = e2 at *
  generalize S.c3 = e3 at *
  generalize S.pks.any (fun x => !pkB x) = pb at *
  have hS := Lib.hid hS0
  replace EB := Lib.hid EB
  replace ET := Lib.hid ET
  replace EP := Lib.hid EP
  replace EY := Lib.hid EY
  replace HC := Lib.hid HC
  clear h hm hS0 hn hnp
  obtain ⟨_, b0, b1, b2, b3, b4, b5, _⟩ := hS.out.b6
  by_cases n1 : n < 1
  · have i1 : (n : Int) < 1 := by omega
    have EE := Lib.hid (EB.out (by omega))
    go_enter Tryd.func18, Tryd.ntmps18
    go_wp2_with fail
    go_ret
    exact ⟨by rw [EE.out]; rfl, hS.out.tail.gold⟩
  by_cases n8 : 8 < n
  · have i1 : ¬ (n : Int) < 1 := by omega
    have i2 : 8 < (n : Int) := by omega
    have EE := Lib.hid (EB.out (by omega))
    go_enter Tryd.func18, Tryd.ntmps18
    go_wp2_with fail
    go_ret
    exact ⟨by rw [EE.out]; rfl, hS.out.tail.gold⟩
  by_cases np4 : 4096 < np
  · have i1 : ¬ (n : Int) < 1 := by omega
    have i2 : ¬ 8 < (n : Int) := by omega
    have i3 : 4096 < (np : Int) := by omega
    have EE := Lib.hid (EB.out (by omega))
    go_enter Tryd.func18, Tryd.ntmps18
    go_wp2_with fail
    go_ret
    exact ⟨by rw [EE.out]; rfl, hS.out.tail.gold⟩
  have i1 : ¬ (n : Int) < 1 := by omega
  have i2 : ¬ 8 < (n : Int) := by omega
  have i3 : ¬ 4096 < (np : Int) := by omega
  cases cb with
  | false =>
    have EE := Lib.hid (EB.out (by rintro ⟨_, _, _, h⟩; exact absurd h (by decide)))
    go_enter Tryd.func18, Tryd.ntmps18
    go_wp2_with (go_at_call 40; refine (HC.out _).mono ?_; rintro e w2 ⟨rfl, q2⟩; replace hS := Lib.hid (hS.out.below q2); clear q2 b0 b1 b2 b3 b4 b5; obtain ⟨_, b0, b1, b2, b3, b4, b5, _⟩ := hS.out.b6)
    go_ret
    exact ⟨by rw [EE.out]; rfl, hS.out.tail.gold⟩
  | true =>
    go_enter Tryd.func18, Tryd.ntmps18
    go_wp2_with (go_at_call 40; refine (HC.out _).mono ?_; rintro e w2 ⟨rfl, q2⟩; replace hS := Lib.hid (hS.out.below q2); clear q2 b0 b1 b2 b3 b4 b5; obtain ⟨_, b0, b1, b2, b3, b4, b5, _⟩ := hS.out.b6)
    go_loopw [31] (fun s wr => ∃ k : Nat, k ≤ n ∧ s = .int .i64 k ∧ Hid (∀ j, j < k → (S.ths.getD j []).length ≤ 32 ∧ (S.ths.getD j []).any (fun x => !opB x) = false) ∧ Hid (Sep wr [blk w.heap.size 30 #[.slice ta n tc, .slice pa np pc, .int .i64 e0, .int .i64 e1, .int .i64 e2, .int .i64 e3], old w])) (fun s _ => n - (intOf s).toNat)
    case atStart => exact ⟨0, Nat.zero_le _, rfl, Lib.hid (fun j hj => absurd hj (by omega)), hS⟩
    case round =>
      clear hS b0 b1 b2 b3 b4 b5
      obtain ⟨k, hk, rfl, hK, hS⟩ := hrel
      obtain ⟨_, b0, b1, b2, b3, b4, b5, _⟩ := hS.out.b6
      by_cases hlt : k < n
      · obtain ⟨g, o, x, y, m, d, E1, l1, z1, hmk, R1⟩ := hH.out k hlt
        injection E1 with E1 _ F1
        subst E1
        subst F1
        have c1 := (hS.out.tail.gold.cell (p := ⟨g, o + k, none⟩) l1).trans z1
        have j1 : (0 : Int) ≤ (k : Int) := by omega
        have j2 : (k : Int) < (n : Int) := by omega
        have hk1 := Lib.hid (show k + 1 ≤ n from hlt)
        have HO1 := fun W (hb : Below w.heap.size w W) => contains_opx (.slice y m d) (S.ths.getD k []) 39 #[] (fun x => !opB x) W (by rw [← hmk]; exact R1.below hb) (hmo.out k) (fun W' x _ _ => bad_any x W') enters_bad
        have ETk := ET.out k
        have hK2 : Hid ((S.ths.getD k []).length ≤ 32 ∧ (S.ths.getD k []).any (fun x => !opB x) = false → ∀ j, j < k + 1 → (S.ths.getD j []).length ≤ 32 ∧ (S.ths.getD j []).any (fun x => !opB x) = false) := Lib.hid (fun h j hj => by
          by_cases e : j = k
          · rw [e]; exact h
          · exact hK.out j (by omega))
        rw [← hmk] at ETk hK2
        generalize (S.ths.getD k []).any (fun x => !opB x) = ob at *
        replace HO1 := Lib.hid HO1
        replace hmk := Lib.hid hmk
        clear z1 R1
        by_cases m32 : 32 < m
        · have j3 : (32 : Int) < (m : Int) := by omega
          have EE := Lib.hid (ETk (by omega))
          clear ETk
          go_wp2_with fail
          go_ret
          exact ⟨by rw [EE.out]; rfl, hS.out.tail.gold⟩
        · have j3 : ¬ (32 : Int) < (m : Int) := by omega
          cases ob with
          | true =>
            have EE := Lib.hid (ETk (by rintro ⟨_, h⟩; exact absurd h (by decide)))
            clear ETk hK2
            go_wp2_with (go_at_call 41; refine (HO1.out _ hS.out.tail.gold).mono ?_; rintro e w4 ⟨rfl, q4⟩; replace hS := Lib.hid (hS.out.below q4); clear q4)
            go_ret
            exact ⟨by rw [EE.out]; rfl, hS.out.tail.gold⟩
          | false =>
            have hK3 := Lib.hid (hK2.out ⟨by omega, rfl⟩)
            clear ETk hK2
            go_wp2_with (go_at_call 41; refine (HO1.out _ hS.out.tail.gold).mono ?_; rintro e w4 ⟨rfl, q4⟩; replace hS := Lib.hid (hS.out.below q4); clear q4)
            go_roundw
            case rel => exact ⟨k + 1, hk1.out, by go_num, hK3, hS⟩
            case measure => have := hk1.out; simp [intOf]; omega
      · obtain rfl : k = n := by omega
        cases pb with
        | true =>
          have EE := Lib.hid (EP.out (by first | trivial | rfl))
          go_wp2_with (go_at_call 42; refine (HP.out _ hS.out.tail.gold).mono ?_; rintro e w4 ⟨rfl, q4⟩; replace hS := Lib.hid (hS.out.below q4); clear q4)
          go_ret
          exact ⟨by rw [EE.out]; rfl, hS.out.tail.gold⟩
        | false =>
          have EE := Lib.hid (EY.out (by omega) (by omega) (by omega) (by first | trivial | rfl) hK.out (by first | trivial | rfl))
          go_wp2_with (go_at_call 42; refine (HP.out _ hS.out.tail.gold).mono ?_; rintro e w4 ⟨rfl, q4⟩; replace hS := Lib.hid (hS.out.below q4); clear q4)
          go_ret
          exact ⟨by rw [EE.out]; rfl, hS.out.tail.gold⟩
end Go.Proofs.YtdpolejbceoldaaDoor
