/-
  Before, Respects. No condition beside spans and numbers that can be read.
-/
import Derived.Test.YtechagciefhpbaaDoorHWalk
import Derived.Deep.RegionWith
import Derived.Shelf.SlicesE.IndexFunc
import Derived.Laws.EntriesVeiled
namespace Go.Proofs.YtechagciefhpbaaDoor
set_option linter.unusedSimpArgs false
set_option linter.unusedVariables false
set_option linter.unnecessarySimpa false
open Go.RowKit
def icell (x : Int) : List Value := [.int .i64 x]
theorem icell_len (x : Int) : (icell x).length = 1 := rfl
/-- Where the first one is that meets p; -1. -/
def idxF {α : Type} (p : α → Bool) : List α → Nat → Int
  | [], _ => -1
  | x :: l, k => if p x then (k : Int) else idxF p l (k + 1)
theorem idxF_any {α : Type} (p : α → Bool) : ∀ (l : List α) (k : Nat), decide (0 ≤ idxF p l k) = l.any p
  | [], k => by simp [idxF]
  | x :: l, k => by
    unfold idxF
    cases h : p x with
    | true => simp [h]
    | false => simp [h, idxF_any p l (k + 1)]
def val_int : Int → Value := fun x => match x with | x => .int .i64 x
def Pred_int (g : Nat) (lb : Array Value) (p : Int → Bool) (l : List Int) (w : World) : Prop :=
  ∀ (W : World) (x : Int), x ∈ l → Below w.heap.size w W → Calls Tryd.prog g (#[val_int x] ++ lb) W fun e w' => e = .returned (.bool (p x)) ∧ Below W.heap.size W w'
theorem cells_int {w : World} {a : Option Addr} {n c : Nat} {l : List Int} (hv : RL w (.slice a n c) 1 n (l.flatMap icell)) (hn : l.length = n) (h0 : 0 < n) : ∃ b off, a = some ⟨b, off, none⟩ ∧ b < w.heap.size ∧ ∀ k x, l[k]? = some x → ∀ j u, (icell x)[j]? = some u → w.cell? ⟨b, off + (k * 1 + j), none⟩ = some u := by
  subst hn
  obtain ⟨b, off, c', hv', _, hb, h⟩ := RL.at_ icell_len hv h0
  injection hv' with e1 _ _
  exact ⟨b, off, e1, hb, h⟩
set_option maxHeartbeats 1000000 in
theorem index_int (v : Value) (l : List Int) (g : Nat) (lb : Array Value) (p : Int → Bool) (w : World) (hv : RL w v 1 l.length (l.flatMap icell)) (hl : l.length ≤ 100000) (hp : Pred_int g lb p l w)
    (eg : ∀ args w, (callFunc g args).run Tryd.prog w = .ok (.enter g args) w) :
    Calls Tryd.prog 34 #[v, .func (.func g) #[] lb] w fun e w' => e = .returned (.int .i64 (idxF p l 0)) ∧ Below w.heap.size w w' := by
  have hv2 := hv
  obtain ⟨_, a, c, rfl, _⟩ := hv
  have HP := Lib.hid hp
  clear hp
  generalize hn : l.length = n at *
  replace hn := Lib.hid hn
  replace hv2 := Lib.hid hv2
  go_enter Tryd.func34, Tryd.ntmps34
  go_wp2
  go_loopw [8] (fun i wr => ∃ k : Nat, k ≤ n ∧ i = .int .i64 k ∧ Hid (idxF p l 0 = idxF p (l.drop k) k) ∧ Hid (Below w.heap.size w wr)) (fun i _ => n - (intOf i).toNat)
  case atStart => exact ⟨0, Nat.zero_le _, rfl, rfl, Below.refl _ _⟩
  case round =>
    obtain ⟨k, hk, rfl, he, hb⟩ := hrel
    by_cases hlt : k < n
    · obtain ⟨b, off, rfl, hbl, hz⟩ := cells_int hv2.out hn.out (by omega)
      obtain ⟨x, hx⟩ : ∃ x, l[k]? = some x := ⟨l[k]'(by rw [hn.out]; exact hlt), List.getElem?_eq_getElem _⟩
      have hz := hz k x hx
      have z0 : wr.cell? ⟨b, off + k, none⟩ = some (.int .i64 x) := by
        rw [hb.out.cell (p := ⟨b, off + k, none⟩) hbl]
        have h := hz 0 _ rfl
        rw [Nat.mul_one, Nat.add_zero] at h
        exact h
      have E := Lib.hid (show l.drop k = x :: l.drop (k + 1) by
        obtain ⟨h1, h2⟩ := List.getElem?_eq_some_iff.1 hx
        rw [List.drop_eq_getElem_cons h1, h2])
      have hq := Lib.hid (HP.out wr x (List.mem_of_getElem? hx) hb.out)
      have i1 : (0 : Int) ≤ (k : Int) := by omega
      have i2 : (k : Int) < (n : Int) := by omega
      clear hz hx
      simp only [val_int] at hq
      go_wp2_with fail
      refine hq.out.mono ?_
      rintro e w1 ⟨rfl, b1⟩
      replace hb := Lib.hid (hb.out.trans (b1.mono hb.out.size))
      clear z0 b1 hq
      cases hpr : p x with
      | true =>
        have E2 := Lib.hid (show idxF p l 0 = (k : Int) by rw [he.out, E.out]; simp only [idxF, hpr, if_true])
        go_wp2_with fail
        go_ret
        exact ⟨by rw [E2.out]; rfl, hb.out⟩
      | false =>
        have E2 := Lib.hid (show idxF p l 0 = idxF p (l.drop (k + 1)) (k + 1) by rw [he.out, E.out]; simp only [idxF, hpr]; rfl)
        go_wp2_with fail
        go_roundw
        case rel => exact ⟨k + 1, by omega, by go_num, E2, hb⟩
        case measure => simp [intOf]; omega
    · have hk2 : k = n := by omega
      have E := Lib.hid (show idxF p l 0 = -1 by rw [he.out, List.drop_eq_nil_of_le (by rw [hn.out]; omega)]; rfl)
      clear he
      go_wp2_with fail
      go_ret
      exact ⟨by rw [E.out]; rfl, hb.out⟩
theorem contains_int (v : Value) (l : List Int) (g : Nat) (lb : Array Value) (p : Int → Bool) (w : World) (hv : RL w v 1 l.length (l.flatMap icell)) (hl : l.length ≤ 100000) (hp : Pred_int g lb p l w)
    (eg : ∀ args w, (callFunc g args).run Tryd.prog w = .ok (.enter g args) w) :
    Calls Tryd.prog 23 #[v, .func (.func g) #[] lb] w fun e w' => e = .returned (.bool (l.any p)) ∧ Below w.heap.size w w' := by
  have H := Lib.hid (index_int v l g lb p w hv hl hp eg)
  obtain ⟨_, a, c, rfl, _⟩ := hv
  rw [← idxF_any p l 0]
  clear hp eg
  generalize idxF p l 0 = x at *
  go_enter Tryd.func23, Tryd.ntmps23
  go_wp2_with fail
  refine H.out.mono ?_
  rintro e w1 ⟨rfl, b1⟩
  replace b1 := Lib.hid b1
  go_wp2_with fail
  go_ret
  exact ⟨rfl, b1.out⟩

def befB (a b : Sp) : Bool := !opens a && decide (a.to < b.from_)
theorem pending_any (s : Sp) (w : World) : Calls Tryd.prog 19 #[s.val] w fun r w' => r = .returned (.bool (opens s)) ∧ Below w.heap.size w w' := by
  obtain ⟨call, thread, from_, to_, ⟨kind, txn, t, r, mode, code⟩⟩ := s
  unfold Sp.val opens
  simp only
  go_enter Tryd.func19, Tryd.ntmps19
  go_wp2
  go_ret
  exact ⟨rfl, (Below.refl _ _).alloc (Nat.le_refl _) _⟩
theorem before_any (a b : Sp) (w : World) : Calls Tryd.prog 13 #[a.val, b.val] w fun r w' => r = .returned (.bool (befB a b)) ∧ Below w.heap.size w w' := by
  have hB := Lib.hid (((Sep.start w).alloc a.cells.toArray 45).alloc b.cells.toArray 45)
  have hP := Lib.hid (fun W => pending_any a W)
  unfold befB
  obtain ⟨call, thread, from_, to_, ⟨kind, txn, t, r, mode, code⟩⟩ := a
  obtain ⟨call', thread', from', to', ⟨kind', txn', t', r', mode', code'⟩⟩ := b
  simp only [Sp.cells, List.size_toArray, World.size_alloc] at hB
  unfold Sp.val at hP ⊢
  simp only at hP ⊢
  generalize opens _ = op at *
  go_enter Tryd.func13, Tryd.ntmps13
  go_wp2_with fail
  refine (hP.out _).mono ?_
  rintro e w1 ⟨rfl, q⟩
  replace hB := Lib.hid (hB.out.below q)
  have c := hB.out.gblk.cell 2
  have d := hB.out.to1.gblk.cell 3
  simp at c d
  clear q
  cases op
  all_goals
    go_wp2_with fail
    go_ret
    exact ⟨by simp, hB.out.tail.tail.gold⟩
theorem eg_before : ∀ args w, (callFunc 13 args).run Tryd.prog w = .ok (.enter 13 args) w := enters_of Tryd.func13 (by kernel_rfl) rfl
theorem eg_resp : ∀ args w, (callFunc 24 args).run Tryd.prog w = .ok (.enter 24 args) w := enters_of Tryd.func24 (by kernel_rfl) rfl
theorem span_cells {w : World} {a : Option Addr} {n c : Nat} {S : List Sp} (hv : RL w (.slice a n c) 10 n (scells S)) (hn : S.length = n) (h0 : 0 < n) : ∃ b off, a = some ⟨b, off, none⟩ ∧ b < w.heap.size ∧ ∀ k s, S[k]? = some s → w.cell? ⟨b, off + k * 10, none⟩ = some (.int .i64 s.call) ∧ w.cell? ⟨b, off + k * 10 + 1, none⟩ = some (.int .i64 s.thread) ∧ w.cell? ⟨b, off + k * 10 + 2, none⟩ = some (.int .i64 s.from_) ∧ w.cell? ⟨b, off + k * 10 + 3, none⟩ = some (.int .i64 s.to) ∧ w.cell? ⟨b, off + k * 10 + 4, none⟩ = some (.int .i64 s.act.kind) ∧ w.cell? ⟨b, off + k * 10 + 5, none⟩ = some (.int .i64 s.act.txn) ∧ w.cell? ⟨b, off + k * 10 + 6, none⟩ = some (.int .i64 s.act.t) ∧ w.cell? ⟨b, off + k * 10 + 7, none⟩ = some (.int .i64 s.act.r) ∧ w.cell? ⟨b, off + k * 10 + 8, none⟩ = some (.int .i64 s.act.mode) ∧ w.cell? ⟨b, off + k * 10 + 9, none⟩ = some (.int .i64 s.act.code) := by
  subst hn
  obtain ⟨b, off, c', hv', _, hb, h⟩ := RL.at_ sp_len hv h0
  injection hv' with e1 _ _
  exact ⟨b, off, e1, hb, fun k s hk => ⟨h k s hk 0 _ rfl, h k s hk 1 _ rfl, h k s hk 2 _ rfl, h k s hk 3 _ rfl, h k s hk 4 _ rfl, h k s hk 5 _ rfl, h k s hk 6 _ rfl, h k s hk 7 _ rfl, h k s hk 8 _ rfl, h k s hk 9 _ rfl⟩⟩
set_option maxHeartbeats 2000000 in
set_option maxRecDepth 100000 in
theorem resp1 (S : List Sp) (a : Option Addr) (n c q : Nat) (B0 B1 B2 : Nat) (l : List Int) (w : World) (hv : RL w (.slice a n c) 10 n (scells S)) (hn : S.length = n) (hq : q < n) (hl : ∀ x ∈ l, 0 ≤ x ∧ x < n)
    (l0 : B0 < w.heap.size) (l1 : B1 < w.heap.size) (l2 : B2 < w.heap.size) (h0 : w.cell? ⟨B0, 0, none⟩ = some (.func (.func 13) #[] #[])) (h1 : w.cell? ⟨B1, 0, none⟩ = some (.slice a n c)) (h2 : w.cell? ⟨B2, 0, none⟩ = some (.int .i64 (q : Int))) :
    Pred_int 24 #[.pointer (some ⟨B0, 0, none⟩), .pointer (some ⟨B1, 0, none⟩), .pointer (some ⟨B2, 0, none⟩)] (fun k => befB (S.getD q default) (S.getD k.toNat default)) l w := fun W x hx hb0 => by
  obtain ⟨hx0, hxn⟩ := hl x hx
  obtain ⟨j, rfl⟩ := Int.eq_ofNat_of_zero_le hx0
  have hj : j < n := by omega
  obtain ⟨s, hs⟩ : ∃ s, S[q]? = some s := ⟨S[q]'(by omega), List.getElem?_eq_getElem _⟩
  obtain ⟨t, ht⟩ : ∃ t, S[j]? = some t := ⟨S[j]'(by omega), List.getElem?_eq_getElem _⟩
  have e1 : S.getD q default = s := by rw [List.getD_eq_getElem?_getD, hs]; rfl
  have e2 : S.getD ((j : Int)).toNat default = t := by rw [Int.toNat_natCast, List.getD_eq_getElem?_getD, ht]; rfl
  simp only
  rw [e1, e2]
  obtain ⟨b, off, rfl, hbl, hz⟩ := span_cells hv hn (by omega)
  have hkk : ∀ o, W.cell? ⟨b, o, none⟩ = w.cell? ⟨b, o, none⟩ := fun o => hb0.cell (p := ⟨b, o, none⟩) hbl
  replace hs := hz q s hs
  replace ht := hz j t ht
  simp only [← hkk] at hs ht
  replace hs := Lib.hid hs
  replace ht := Lib.hid ht
  clear hkk
  replace h0 := Lib.hid ((hb0.cell (p := ⟨B0, 0, none⟩) l0).trans h0)
  replace h1 := Lib.hid ((hb0.cell (p := ⟨B1, 0, none⟩) l1).trans h1)
  replace h2 := Lib.hid ((hb0.cell (p := ⟨B2, 0, none⟩) l2).trans h2)
  have hsz := hb0.size
  replace l0 : B0 < W.heap.size := by omega
  replace l1 : B1 < W.heap.size := by omega
  replace l2 : B2 < W.heap.size := by omega
  have hb : b < W.heap.size := by omega
  have i1 : (0 : Int) ≤ (q : Int) := by omega
  have i2 : (q : Int) < (n : Int) := by omega
  have i3 : (0 : Int) ≤ (j : Int) := by omega
  have i4 : (j : Int) < (n : Int) := by omega
  have HB := Lib.hid (fun V => before_any s t V)
  clear hz hv e1 e2 hl hx hsz hb0
  generalize befB s t = bb at *
  obtain ⟨call, thread, from_, to_, ⟨kind, txn, t_, r, mode, code⟩⟩ := s
  obtain ⟨call', thread', from', to', ⟨kind', txn', t', r', mode', code'⟩⟩ := t
  unfold Sp.val at HB
  simp only at hs ht HB
  have eg := eg_before
  show Calls Tryd.prog 24 #[.int .i64 (j : Int), .pointer (some ⟨B0, 0, none⟩), .pointer (some ⟨B1, 0, none⟩), .pointer (some ⟨B2, 0, none⟩)] W _
  go_enter Tryd.func24, Tryd.ntmps24
  go_wp2_with fail
  have hS := Lib.hid (show (fun V : World => Below W.heap.size W V) _ from (show Below W.heap.size W W.drew from below_drewN (Below.refl _ _) 1))
  refine hl_begin (fun V : World => Below W.heap.size W V) [(0, true), (1, true), (2, true), (3, true), (4, true), (5, true), (6, true), (7, true), (8, true), (9, false), (10, true)] (by kernel_rfl) (by kernel_rfl) (by kernel_rfl) rfl (fun _ _ _ _ _ h => h) hS.out ?_
  change HL _ _ _ _ _ _ (World.drew _)
  generalize World.drew _ = wd at *
  refine hl_take ?v1 rfl (by kernel_rfl) ?y1 ?z1
  case y1 => intro W hW; change Below _ _ _ at hW; have c0 := (hW.cell (p := ⟨B0, 0, none⟩) l0).trans h0.out; replace hW := Lib.hid hW; go_simp; try rfl
  case z1 =>
  simp only [Act.put, List.setIfInBounds_toArray, List.set_cons_succ, List.set_cons_zero, List.getElem_toArray, List.getElem_cons_zero, List.getElem_cons_succ]
  refine hl_take ?v2 rfl (by kernel_rfl) ?y2 ?z2
  case y2 => intro W hW; change Below _ _ _ at hW; have c1 := (hW.cell (p := ⟨B1, 0, none⟩) l1).trans h1.out; replace hW := Lib.hid hW; go_simp; try rfl
  case z2 =>
  simp only [Act.put, List.setIfInBounds_toArray, List.set_cons_succ, List.set_cons_zero, List.getElem_toArray, List.getElem_cons_zero, List.getElem_cons_succ]
  refine hl_take ?v3 rfl (by kernel_rfl) ?y3 ?z3
  case y3 => intro W hW; change Below _ _ _ at hW; have c2 := (hW.cell (p := ⟨B2, 0, none⟩) l2).trans h2.out; replace hW := Lib.hid hW; go_simp; try rfl
  case z3 =>
  simp only [Act.put, List.setIfInBounds_toArray, List.set_cons_succ, List.set_cons_zero, List.getElem_toArray, List.getElem_cons_zero, List.getElem_cons_succ]
  refine hl_take ?v4 rfl (by kernel_rfl) ?y4 ?z4
  case y4 => intro W hW; skip; replace hW := Lib.hid hW; go_simp; try rfl
  case z4 =>
  simp only [Act.put, List.setIfInBounds_toArray, List.set_cons_succ, List.set_cons_zero, List.getElem_toArray, List.getElem_cons_zero, List.getElem_cons_succ]
  refine hl_take ?v5 rfl (by kernel_rfl) ?y5 ?z5
  case y5 => intro W hW; change Below _ _ _ at hW; obtain ⟨y0, y1, y2, y3, y4, y5, y6, y7, y8, y9⟩ := hs.out; replace y0 := (hW.cell (p := ⟨b, off + q * 10, none⟩) hb).trans y0; replace y1 := (hW.cell (p := ⟨b, off + q * 10 + 1, none⟩) hb).trans y1; replace y2 := (hW.cell (p := ⟨b, off + q * 10 + 2, none⟩) hb).trans y2; replace y3 := (hW.cell (p := ⟨b, off + q * 10 + 3, none⟩) hb).trans y3; replace y4 := (hW.cell (p := ⟨b, off + q * 10 + 4, none⟩) hb).trans y4; replace y5 := (hW.cell (p := ⟨b, off + q * 10 + 5, none⟩) hb).trans y5; replace y6 := (hW.cell (p := ⟨b, off + q * 10 + 6, none⟩) hb).trans y6; replace y7 := (hW.cell (p := ⟨b, off + q * 10 + 7, none⟩) hb).trans y7; replace y8 := (hW.cell (p := ⟨b, off + q * 10 + 8, none⟩) hb).trans y8; replace y9 := (hW.cell (p := ⟨b, off + q * 10 + 9, none⟩) hb).trans y9; replace hW := Lib.hid hW; go_simp; try rfl
  case z5 =>
  simp only [Act.put, List.setIfInBounds_toArray, List.set_cons_succ, List.set_cons_zero, List.getElem_toArray, List.getElem_cons_zero, List.getElem_cons_succ]
  refine hl_take ?v6 rfl (by kernel_rfl) ?y6 ?z6
  case y6 => intro W hW; change Below _ _ _ at hW; have c1 := (hW.cell (p := ⟨B1, 0, none⟩) l1).trans h1.out; replace hW := Lib.hid hW; go_simp; try rfl
  case z6 =>
  simp only [Act.put, List.setIfInBounds_toArray, List.set_cons_succ, List.set_cons_zero, List.getElem_toArray, List.getElem_cons_zero, List.getElem_cons_succ]
  refine hl_take ?v7 rfl (by kernel_rfl) ?y7 ?z7
  case y7 => intro W hW; skip; replace hW := Lib.hid hW; go_simp; try rfl
  case z7 =>
  simp only [Act.put, List.setIfInBounds_toArray, List.set_cons_succ, List.set_cons_zero, List.getElem_toArray, List.getElem_cons_zero, List.getElem_cons_succ]
  refine hl_take ?v8 rfl (by kernel_rfl) ?y8 ?z8
  case y8 => intro W hW; skip; replace hW := Lib.hid hW; go_simp; try rfl
  case z8 =>
  simp only [Act.put, List.setIfInBounds_toArray, List.set_cons_succ, List.set_cons_zero, List.getElem_toArray, List.getElem_cons_zero, List.getElem_cons_succ]
  refine hl_take ?v9 rfl (by kernel_rfl) ?y9 ?z9
  case y9 => intro W hW; change Below _ _ _ at hW; obtain ⟨y0, y1, y2, y3, y4, y5, y6, y7, y8, y9⟩ := ht.out; replace y0 := (hW.cell (p := ⟨b, off + j * 10, none⟩) hb).trans y0; replace y1 := (hW.cell (p := ⟨b, off + j * 10 + 1, none⟩) hb).trans y1; replace y2 := (hW.cell (p := ⟨b, off + j * 10 + 2, none⟩) hb).trans y2; replace y3 := (hW.cell (p := ⟨b, off + j * 10 + 3, none⟩) hb).trans y3; replace y4 := (hW.cell (p := ⟨b, off + j * 10 + 4, none⟩) hb).trans y4; replace y5 := (hW.cell (p := ⟨b, off + j * 10 + 5, none⟩) hb).trans y5; replace y6 := (hW.cell (p := ⟨b, off + j * 10 + 6, none⟩) hb).trans y6; replace y7 := (hW.cell (p := ⟨b, off + j * 10 + 7, none⟩) hb).trans y7; replace y8 := (hW.cell (p := ⟨b, off + j * 10 + 8, none⟩) hb).trans y8; replace y9 := (hW.cell (p := ⟨b, off + j * 10 + 9, none⟩) hb).trans y9; replace hW := Lib.hid hW; go_simp; try rfl
  case z9 =>
  simp only [Act.put, List.setIfInBounds_toArray, List.set_cons_succ, List.set_cons_zero, List.getElem_toArray, List.getElem_cons_zero, List.getElem_cons_succ]
  refine hl_one rfl (by kernel_rfl) (fun K hK => ?_)
  go_simp
  refine (HB.out _).mono ?_
  rintro e w1 ⟨rfl, q1⟩
  replace hS := Lib.hid (hS.out.trans (q1.mono hS.out.size))
  clear q1
  refine hK.out _ _ hS.out ?_
  clear hK K
  try simp only [Act.put, List.setIfInBounds_toArray, List.set_cons_succ, List.set_cons_zero, List.getElem_toArray, List.getElem_cons_zero, List.getElem_cons_succ]
  refine hl_take ?v10 rfl (by kernel_rfl) ?y10 ?z10
  case y10 => intro W hW; skip; replace hW := Lib.hid hW; go_simp; try rfl
  case z10 =>
  simp only [Act.put, List.setIfInBounds_toArray, List.set_cons_succ, List.set_cons_zero, List.getElem_toArray, List.getElem_cons_zero, List.getElem_cons_succ]
  refine hl_done ?_
  skip
  go_wp2_with fail
  go_ret
  exact ⟨rfl, hS.out⟩
/-- Is the i-th one of an order right behind those before it? -/
def respOK (S : List Sp) (O : List Int) (i : Nat) : Bool :=
  decide (0 ≤ O.getD i 0) && (decide (O.getD i 0 < S.length) && (!(O.take i).contains (O.getD i 0) && !(O.take i).any (fun k => befB (S.getD (O.getD i 0).toNat default) (S.getD k.toNat default))))
def respB (S : List Sp) (O : List Int) : Bool := (List.range O.length).all (respOK S O) && decide (O.length = S.length)
theorem respB_bad {S : List Sp} {O : List Int} {i : Nat} (hi : i < O.length) (h : respOK S O i = false) : respB S O = false := by
  unfold respB
  rw [Bool.and_eq_false_iff]
  refine .inl ?_
  rw [List.all_eq_false]
  exact ⟨i, List.mem_range.2 hi, by rw [h]; simp⟩
theorem respB_good {S : List Sp} {O : List Int} (h : ∀ i, i < O.length → respOK S O i = true) : respB S O = decide (O.length = S.length) := by
  unfold respB
  rw [show (List.range O.length).all (respOK S O) = true from List.all_eq_true.2 fun i hi => h i (List.mem_range.1 hi)]
  rfl
theorem rl_take {w : World} {a : Option Addr} {n c k : Nat} {O : List Int} (h : RL w (.slice a n c) 1 n (O.flatMap icell)) (hn : O.length = n) (hk : k ≤ n) : RL w (.slice a k c) 1 k ((O.take k).flatMap icell) := by
  obtain ⟨hl, a', c', hv, hc, hna, hr⟩ := h
  injection hv with e1 _ e3
  subst e1 e3
  refine ⟨by rw [flat_len icell 1 icell_len]; simp [hn, Nat.min_eq_left hk], a, c, rfl, by omega, hna, fun h0 => ?_⟩
  obtain ⟨b, off, ha, hb, hz⟩ := hr (by omega)
  refine ⟨b, off, ha, hb, fun j u hu => hz j u ?_⟩
  have := flat_take icell 1 icell_len O k (by omega)
  rw [Nat.mul_one] at this
  rw [← this, List.getElem?_take] at hu
  split at hu
  · exact hu
  · cases hu
theorem take_snoc_at {O : List Int} {k : Nat} (hk : k < O.length) : O.take (k + 1) = O.take k ++ [O.getD k 0] := by
  rw [List.take_succ_eq_append_getElem hk, List.getD_eq_getElem?_getD, List.getElem?_eq_getElem hk]
  rfl
theorem wpList_look_set {P : Program} {K : Type} [DecidableEq K] {ek : K → Value} {w : World} {b : Nat} {l : List (K × Unit)} {rs : List Res} {k e t : TypeId} {ops : Array Oper} {rest : List Oper} {o : Oper} {a : Act} {Q : Exit → Act → World → Prop}
    (h : Sep w (mapr ek evU b l :: rs)) (E : KeyEnc P k ek) (ht : P.underlying t = some (.map k e)) (hg : o.guard = none) (m x : Operand) (hop : o.op = Op.lookup t m x true)
    (hz : (zeroValue e).run P w = .ok (evU ()) w) (hm : a.eval m = .map (some b)) (key : K) (hx : a.eval x = ek key)
    (hK : wpList P ops Q rest (a.put o.dst (.tuple #[.agg #[], .bool (hasL l key)])) w) : wpList P ops Q (o :: rest) a w := by
  refine wpList_lookup_map h E ht hg m x true hop hz hm key hx ?_
  have e1 : ((getL l key).map evU).getD (evU ()) = .agg #[] := by cases getL l key <;> rfl
  rw [if_pos rfl, e1]
  exact hK
set_option maxHeartbeats 4000000 in
set_option maxRecDepth 100000 in
theorem respects_any (v u : Value) (S : List Sp) (O : List Int) (w : World) (hv : RL w v 10 S.length (scells S)) (hu : RL w u 1 O.length (O.flatMap icell)) (hl : S.length ≤ 1000) (hlo : O.length ≤ 1000) :
    Calls Tryd.prog 14 #[v, u] w fun r w' => r = .returned (.bool (respB S O)) ∧ Below w.heap.size w w' := by
  have hmm := @run_makeMap Tryd.prog
  obtain ⟨n, hn⟩ : ∃ n, Hid (S.length = n) := ⟨_, rfl⟩
  obtain ⟨m, hm⟩ : ∃ m, Hid (O.length = m) := ⟨_, rfl⟩
  rw [hn.out] at hv hl
  rw [hm.out] at hu hlo
  have hv2 := hv
  have hu2 := hu
  obtain ⟨_, a, c, rfl, hc, _, _⟩ := hv
  obtain ⟨_, a', c', rfl, hc', _, _⟩ := hu
  replace hv2 := Lib.hid hv2
  replace hu2 := Lib.hid hu2
  have h0 := (((Sep.start w).alloc #[.slice a n c] 36).alloc #[.func (.func 13) #[] #[]] 46).map_new ekI evU
  simp only [World.size_alloc] at h0
  have hS := Lib.hid h0
  have eg := eg_resp
  clear h0
  go_enter Tryd.func14, Tryd.ntmps14
  go_wp2_with fail
  clear hmm
  go_loopw [14] (fun i wr => ∃ k seen, k ≤ m ∧ i = .int .i64 k ∧ Hid (∀ x, hasL seen x = (O.take k).contains x) ∧ Hid (∀ j, j < k → respOK S O j = true) ∧ Hid (Sep wr [mapr ekI evU (w.heap.size + 1 + 1) seen, blk (w.heap.size + 1) 46 #[.func (.func 13) #[] #[]], blk w.heap.size 36 #[.slice a n c], old w])) (fun i _ => m - (intOf i).toNat)
  case atStart => exact ⟨0, [], Nat.zero_le _, rfl, Lib.hid (fun x => by simp [hasL]), Lib.hid (fun j hj => by omega), hS⟩
  case round =>
    clear hS
    obtain ⟨k, seen, hk, rfl, hse, hg, hS⟩ := hrel
    obtain ⟨_, c1, _⟩ := hS.out.to2.b1
    by_cases hlt : k < m
    · have i1 : (0 : Int) ≤ (k : Int) := by omega
      have i2 : (k : Int) < (m : Int) := by omega
      have i3 : (k : Int) ≤ (c' : Int) := by omega
      obtain ⟨b, off, rfl, hbl, hz⟩ := cells_int hu2.out hm.out (by omega)
      obtain ⟨x, hx⟩ : ∃ x, Hid (O.getD k 0 = x) := ⟨_, rfl⟩
      have hxx : O[k]? = some x := by rw [← hx.out, List.getD_eq_getElem?_getD, List.getElem?_eq_getElem (by rw [hm.out]; exact hlt)]; rfl
      have z0 : wr.cell? ⟨b, off + k, none⟩ = some (.int .i64 x) := by
        rw [hS.out.to3.gold.cell (p := ⟨b, off + k, none⟩) hbl]
        have h := hz k x hxx 0 _ rfl
        rw [Nat.mul_one, Nat.add_zero] at h
        exact h
      clear hz hxx
      have hbad := Lib.hid (fun h => respB_bad (S := S) (O := O) (i := k) (by rw [hm.out]; exact hlt) h)
      have hSx := Lib.hid (hS.out.alloc #[.int .i64 x] 3)
      have hok : Hid (respOK S O k = (decide (0 ≤ x) && (decide (x < n) && (!hasL seen x && !(O.take k).any (fun k => befB (S.getD x.toNat default) (S.getD k.toNat default)))))) := by
        refine Lib.hid ?_
        unfold respOK
        rw [hx.out, hn.out, hse.out]
      clear hS
      obtain ⟨hb, hhb⟩ : ∃ hb, Hid (hasL seen x = hb) := ⟨_, rfl⟩
      have hok2 := hok.out
      rw [hhb.out] at hok2
      by_cases hx0 : x < 0
      · have hf := hbad.out (by rw [hok2, decide_eq_false (by omega)]; rfl)
        replace hf := Lib.hid hf
        clear hok2
        go_wp2_with (at_lookup; refine wpList_look_set hSx.out.to1 lawI Tryd.underlying54 rfl (.tmp 20) (.tmp 21) rfl (zeroU _) rfl x rfl ?_; rw [hhb.out])
        go_ret
        exact ⟨by rw [hf.out]; rfl, by have := (hSx.out.tail.tail.tail.tail.allocG (.cells #[] 55)).gold; exact this⟩
      · by_cases hxn : x < n
        · cases hb with
          | true =>
            have hf := hbad.out (by rw [hok2]; simp)
            replace hf := Lib.hid hf
            clear hok2
            go_wp2_with (at_lookup; refine wpList_look_set hSx.out.to1 lawI Tryd.underlying54 rfl (.tmp 20) (.tmp 21) rfl (zeroU _) rfl x rfl ?_; rw [hhb.out])
            go_ret
            exact ⟨by rw [hf.out]; rfl, by have := (hSx.out.tail.tail.tail.tail.allocG (.cells #[] 55)).gold; exact this⟩
          | false =>
            rw [decide_eq_true (by omega), decide_eq_true hxn] at hok2
            simp only [Bool.true_and, Bool.not_false] at hok2
            obtain ⟨q, rfl⟩ := Int.eq_ofNat_of_zero_le (show 0 ≤ x by omega)
            have hqn : q < n := by omega
            have hpr : Hid (∀ y ∈ O.take k, 0 ≤ y ∧ y < n) := by
              refine Lib.hid fun y hy => ?_
              obtain ⟨j, hj⟩ := List.mem_iff_getElem?.1 hy
              have hjk : j < k := by
                have := (List.getElem?_eq_some_iff.1 hj).1
                rw [List.length_take] at this
                omega
              have h1 := hg.out j hjk
              unfold respOK at h1
              rw [List.getElem?_take, if_pos hjk] at hj
              have h2 : O.getD j 0 = y := by rw [List.getD_eq_getElem?_getD, hj]; rfl
              rw [h2] at h1
              simp only [Bool.and_eq_true, decide_eq_true_eq] at h1
              have := hn.out
              omega
            have hkl : Hid ((O.take k).length = k) := Lib.hid (by rw [List.length_take, hm.out]; omega)
            have hXB := Lib.hid hSx.out.to1
            have hXA := Lib.hid (hSx.out.to1.allocG (.cells #[] 55))
            simp only [Int.toNat_natCast] at hok2
            replace hok2 := Lib.hid hok2
            have hu3 := Lib.hid (rl_take hu2.out hm.out hk)
            replace hxn := Lib.hid hxn
            have hq0 : (0 : Int) ≤ (q : Int) := by omega
            have hq1 : (q : Int) < (n : Int) := by omega
            clear hSx hok
            go_wp2_with (first | (at_lookup; refine wpList_look_set hXB.out lawI Tryd.underlying54 rfl (.tmp 20) (.tmp 21) rfl (zeroU _) rfl (q : Int) rfl ?_; rw [hhb.out]) | (at_mapUpdate; refine wpList_mapUpdate_map hXA.out lawI Tryd.underlying54 rfl (.tmp 36) (.tmp 37) (.tmp 38) rfl rfl (q : Int) () rfl rfl ?_; intro w2 hS2))
            have b0 := hS2.to2.b1
            have b1 := hS2.to3.b1
            have b2 := hS2.to1.b1
            have ho := hS2.to4.gold
            have hP := resp1 S a n c q (w.heap.size + 1) w.heap.size wr.heap.size (O.take k) w2 (hv2.out.below ho) hn.out hqn hpr.out b0.1 b1.1 b2.1 b0.2.1 b1.2.1 b2.2.1
            have hC := Lib.hid (contains_int (.slice (some ⟨b, off, none⟩) k c') (O.take k) _ _ _ w2 (by rw [hkl.out]; exact hu3.out.below ho) (by rw [hkl.out]; omega) hP eg)
            replace hS2 := Lib.hid hS2
            clear b0 b1 b2 ho hP hu3
            refine hC.out.mono ?_
            rintro r w3 ⟨rfl, q3⟩
            have hok3 := hok2.out
            clear hC hok2
            generalize ((O.take k).any fun k => befB (S.getD q default) (S.getD k.toNat default)) = bb at *
            replace hS2 := Lib.hid (hS2.out.below q3)
            clear q3
            cases bb with
            | true =>
              have hf := hbad.out (by rw [hok3]; rfl)
              replace hf := Lib.hid hf
              clear hok3
              go_wp2_with fail
              go_ret
              exact ⟨by rw [hf.out]; rfl, hS2.out.to4.gold⟩
            | false =>
              replace hok3 := Lib.hid hok3
              have hse2 : Hid (∀ x, hasL (putL seen (q : Int) ()) x = (O.take (k + 1)).contains x) := by
                refine Lib.hid fun x => ?_
                rw [hasL_putL, hse.out, take_snoc_at (by rw [hm.out]; exact hlt), hx.out, Bool.eq_iff_iff]
                simp [or_comm]
              have hg2 : Hid (∀ j, j < k + 1 → respOK S O j = true) := by
                refine Lib.hid fun j hj => ?_
                rcases Nat.lt_or_ge j k with h1 | h1
                · exact hg.out j h1
                · obtain rfl : j = k := by omega
                  rw [hok3.out]
                  rfl
              go_wp2_with fail
              go_roundw
              case rel => exact ⟨k + 1, putL seen (q : Int) (), by omega, by go_num, hse2, hg2, Lib.hid hS2.out.to1.tail⟩
              case measure => simp [intOf]; omega
        · have hf := hbad.out (by rw [hok2, decide_eq_false hxn]; simp)
          replace hf := Lib.hid hf
          clear hok2
          go_wp2_with (at_lookup; refine wpList_look_set hSx.out.to1 lawI Tryd.underlying54 rfl (.tmp 20) (.tmp 21) rfl (zeroU _) rfl x rfl ?_; rw [hhb.out])
          go_ret
          exact ⟨by rw [hf.out]; rfl, by have := (hSx.out.tail.tail.tail.tail.allocG (.cells #[] 55)).gold; exact this⟩
    · have hkm : k = m := by omega
      have hf : Hid (respB S O = decide ((m : Int) = (n : Int))) := by
        refine Lib.hid ?_
        rw [respB_good (fun i hi => hg.out i (by rw [hkm, ← hm.out]; exact hi)), hn.out, hm.out, decide_eq_decide]
        omega
      go_wp2_with fail
      go_ret
      exact ⟨by rw [hf.out]; rfl, hS.out.tail.tail.tail.gold⟩
end Go.Proofs.YtechagciefhpbaaDoor
