/-
  Ages: IndexFunc, Age. No condition beside lists that can be read.
-/
import Derived.Test.YthbamhfnemdebaaWCy
namespace Go.Proofs.Ythbamhfnemdebaa
open Go.RowKit
structure Ag where
  txn : Int
  age : Int
  deriving DecidableEq, Inhabited
def Ag.cells (e : Ag) : List Value := [.int .i64 e.txn, .int .i64 e.age]
theorem ag_len (e : Ag) : e.cells.length = 2 := rfl
def val_ag : Ag → Value := fun x => match x with | ⟨tx, ag⟩ => .agg #[.int .i64 tx, .int .i64 ag]
def Pred_ag (g : Nat) (lb : Array Value) (p : Ag → Bool) (l : List Ag) (w : World) : Prop :=
  ∀ (W : World) (x : Ag), x ∈ l → Below w.heap.size w W → Calls Try.prog g (#[val_ag x] ++ lb) W fun e w' => e = .returned (.bool (p x)) ∧ Below W.heap.size W w'
theorem cells_ag {w : World} {a : Option Addr} {n c : Nat} {l : List Ag} (hv : RL w (.slice a n c) 2 n (l.flatMap Ag.cells)) (hn : l.length = n) (h0 : 0 < n) : ∃ b off, a = some ⟨b, off, none⟩ ∧ b < w.heap.size ∧ ∀ k x, l[k]? = some x → ∀ j u, (Ag.cells x)[j]? = some u → w.cell? ⟨b, off + (k * 2 + j), none⟩ = some u := by
  subst hn
  obtain ⟨b, off, c', hv', _, hb, h⟩ := RL.at_ ag_len hv h0
  injection hv' with e1 _ _
  exact ⟨b, off, e1, hb, h⟩
set_option maxHeartbeats 1000000 in
theorem index_ag (v : Value) (l : List Ag) (g : Nat) (lb : Array Value) (p : Ag → Bool) (w : World) (hv : RL w v 2 l.length (l.flatMap Ag.cells)) (hl : l.length ≤ 100000) (hp : Pred_ag g lb p l w)
    (eg : ∀ args w, (callFunc g args).run Try.prog w = .ok (.enter g args) w) :
    Calls Try.prog 23 #[v, .func (.func g) #[] lb] w fun e w' => e = .returned (.int .i64 (idxF p l 0)) ∧ Below w.heap.size w w' := by
  have hv2 := hv
  obtain ⟨_, a, c, rfl, _⟩ := hv
  have HP := Lib.hid hp
  clear hp
  generalize hn : l.length = n at *
  replace hn := Lib.hid hn
  replace hv2 := Lib.hid hv2
  go_enter Try.func23, Try.ntmps23
  go_wp2
  go_loopw [8] (fun i wr => ∃ k : Nat, k ≤ n ∧ i = .int .i64 k ∧ Hid (idxF p l 0 = idxF p (l.drop k) k) ∧ Hid (Below w.heap.size w wr)) (fun i _ => n - (intOf i).toNat)
  case atStart => exact ⟨0, Nat.zero_le _, rfl, rfl, Below.refl _ _⟩
  case round =>
    obtain ⟨k, hk, rfl, he, hb⟩ := hrel
    by_cases hlt : k < n
    · obtain ⟨b, off, rfl, hbl, hz⟩ := cells_ag hv2.out hn.out (by omega)
      obtain ⟨x, hx⟩ : ∃ x, l[k]? = some x := ⟨l[k]'(by rw [hn.out]; exact hlt), List.getElem?_eq_getElem _⟩
      have hz := hz k x hx
      have z0 := (hb.out.cell (p := ⟨b, off + k * 2, none⟩) hbl).trans (hz 0 _ rfl)
      have z1 := (hb.out.cell (p := ⟨b, off + k * 2 + 1, none⟩) hbl).trans (hz 1 _ rfl)
      have E := Lib.hid (show l.drop k = x :: l.drop (k + 1) by
        obtain ⟨h1, h2⟩ := List.getElem?_eq_some_iff.1 hx
        rw [List.drop_eq_getElem_cons h1, h2])
      have hq := Lib.hid (HP.out wr x (List.mem_of_getElem? hx) hb.out)
      have i1 : (0 : Int) ≤ (k : Int) := by omega
      have i2 : (k : Int) < (n : Int) := by omega
      clear hz hx
      obtain ⟨tx, ag⟩ := x
      simp only at z0 z1
      simp only [val_ag] at hq
      go_wp2_with fail
      refine hq.out.mono ?_
      rintro e w1 ⟨rfl, b1⟩
      replace hb := Lib.hid (hb.out.trans (b1.mono hb.out.size))
      clear z0 z1 b1 hq
      cases hpr : p ⟨tx, ag⟩ with
      | true =>
        have E2 := Lib.hid (show idxF p l 0 = (k : Int) by rw [he.out, E.out]; simp only [idxF, hpr, if_true])
        go_wp2_with fail
        go_ret
        exact ⟨by rw [E2.out]; rfl, hb.out⟩
      | false =>
        have E2 := Lib.hid (show idxF p l 0 = idxF p (l.drop (k + 1)) (k + 1) by rw [he.out, E.out]; simp only [idxF, hpr]; rfl)
        go_wp2_with fail
        go_roundw
        case rel => exact ⟨k + 1, by omega, by go_num, E2, hb⟩
        case measure => simp [intOf]; omega
    · have hk2 : k = n := by omega
      have E := Lib.hid (show idxF p l 0 = -1 by rw [he.out, List.drop_eq_nil_of_le (by rw [hn.out]; omega)]; rfl)
      clear he
      go_wp2_with fail
      go_ret
      exact ⟨by rw [E.out]; rfl, hb.out⟩
theorem idxF_find {α : Type} (p : α → Bool) : ∀ (l : List α) (k : Nat), (idxF p l k = -1 ∧ l.find? p = none) ∨ ∃ (j : Nat) (x : α), idxF p l k = ((k + j : Nat) : Int) ∧ l[j]? = some x ∧ l.find? p = some x
  | [], k => .inl ⟨rfl, rfl⟩
  | x :: l, k => by
    unfold idxF
    rw [List.find?_cons]
    cases h : p x with
    | true => exact .inr ⟨0, x, by simp, rfl, rfl⟩
    | false =>
      simp only [Bool.false_eq_true, if_false]
      rcases idxF_find p l (k + 1) with h1 | ⟨j, y, h1, h2, h3⟩
      · exact .inl h1
      · exact .inr ⟨j + 1, y, by rw [h1]; omega, by simpa using h2, h3⟩
/-- A transaction's age. -/
def ageL (A : List Ag) (t : Int) : Int := ((A.find? fun a => a.txn == t).map (·.age)).getD 0
set_option maxHeartbeats 4000000 in
theorem pred_age (tb : Nat) (t : Int) (A : List Ag) (w : World) (h0 : w.cell? ⟨tb, 0, none⟩ = some (.int .i64 t)) (hb : tb < w.heap.size) : Pred_ag 24 #[.pointer (some ⟨tb, 0, none⟩)] (fun a => a.txn == t) A w := by
  intro W x _ hW
  obtain ⟨tx, ag⟩ := x
  have hB := Lib.hid ((Sep.start W).alloc #[.int .i64 tx, .int .i64 ag] 43)
  have hBel := Lib.hid (((Sep.start W).alloc #[.int .i64 tx, .int .i64 ag] 43).tail.gold)
  obtain ⟨_, c0, c1, _⟩ := hB.out.b2
  have h1 := (hW.cell (p := ⟨tb, 0, none⟩) hb).trans h0
  have h2 := (hBel.out.cell (p := ⟨tb, 0, none⟩) (Nat.lt_of_lt_of_le hb hW.size)).trans h1
  clear hB h1 h0 hW
  unfold val_ag
  simp only
  go_enter Try.func24, Try.ntmps24
  go_wp2_with fail
  go_ret
  exact ⟨rfl, hBel.out⟩
theorem eg_age : ∀ args w, (callFunc 24 args).run Try.prog w = .ok (.enter 24 args) w := enters_of Try.func24 (by kernel_rfl) rfl
set_option maxHeartbeats 4000000 in
theorem age_any (v : Value) (A : List Ag) (t : Int) (w : World) (hv : RL w v 2 A.length (A.flatMap Ag.cells)) (hl : A.length ≤ 1000) :
    Calls Try.prog 11 #[v, .int .i64 t] w fun e w' => e = .returned (.int .i64 (ageL A t)) ∧ Below w.heap.size w w' := by
  have hB := Lib.hid ((Sep.start w).alloc #[.int .i64 t] 3)
  have hv2 := Lib.hid (hv.below hB.out.tail.gold)
  have hI := Lib.hid (index_ag v A 24 #[.pointer (some ⟨w.heap.size, 0, none⟩)] (fun a => a.txn == t) _ hv2.out (by omega) (pred_age _ t A _ hB.out.b1.2.1 hB.out.b1.1) eg_age)
  have hf := Lib.hid (idxF_find (fun a : Ag => a.txn == t) A 0)
  have hage : ageL A t = ((A.find? fun a => a.txn == t).map (·.age)).getD 0 := rfl
  have hcl := Lib.hid (fun W (h : RL W v 2 A.length (A.flatMap Ag.cells)) (h0 : 0 < A.length) => RL.at_ ag_len h h0)
  rw [hage]
  clear hage hv
  generalize (A.find? fun a => a.txn == t) = F at *
  generalize idxF (fun a : Ag => a.txn == t) A 0 = I at *
  go_enter Try.func11, Try.ntmps11
  go_wp2_with fail
  refine hI.out.mono ?_
  rintro e w2 ⟨rfl, q⟩
  replace hB := Lib.hid (hB.out.below q)
  replace hv2 := Lib.hid (hv2.out.below q)
  clear hI q
  rcases hf.out with ⟨rfl, rfl⟩ | ⟨j, x, rfl, hj, rfl⟩
  · go_wp2_with fail
    go_ret
    exact ⟨rfl, hB.out.tail.gold⟩
  · have hjl := (List.getElem?_eq_some_iff.1 hj).1
    obtain ⟨b, off, c, rfl, _, hb, zz⟩ := hcl.out w2 hv2.out (by omega)
    have z1 := zz j x hj 1 _ rfl
    rw [← Nat.add_assoc] at z1
    clear zz
    rw [Nat.zero_add]
    have i0 : ¬ (j : Int) < 0 := by omega
    have i1 : (0 : Int) ≤ (j : Int) := by omega
    have i2 : (j : Int) < (A.length : Int) := by omega
    go_wp2_with fail
    go_ret
    exact ⟨rfl, hB.out.tail.gold⟩
theorem isNaN_any (x : Int) (w : World) : Calls Try.prog 47 #[.int .i64 x] w fun e w' => e = .returned (.bool false) ∧ w' = w := by
  have h : (x != x) = false := by simp
  go_enter Try.func47, Try.ntmps47
  go_wp2_with fail
  go_ret
  exact ⟨rfl, rfl⟩
theorem compare64_any (x y : Int) (w : World) : Calls Try.prog 40 #[.int .i64 x, .int .i64 y] w fun e w' => e = .returned (.int .i64 (Lib.compareInt x y)) ∧ w' = w := by
  have hlt : x < y → Lib.compareInt x y = -1 := fun h => by unfold Lib.compareInt; simp [h]
  have hgt : y < x → Lib.compareInt x y = 1 := fun h => by
    have h2 : ¬ x < y := by omega
    unfold Lib.compareInt; simp [h, h2]
  have heq : x = y → Lib.compareInt x y = 0 := fun h => by
    have h2 : ¬ x < y := by omega
    have h3 : ¬ y < x := by omega
    unfold Lib.compareInt; simp [h2, h3]
  by_cases h1 : x < y
  · rw [hlt h1]
    clear hlt hgt heq
    go_enter Try.func40, Try.ntmps40
    go_wp2_with fail
    refine (isNaN_any _ _).mono ?_
    rintro e w1 ⟨rfl, rfl⟩
    go_wp2_with fail
    refine (isNaN_any _ _).mono ?_
    rintro e w2 ⟨rfl, rfl⟩
    go_wp2_with fail
    go_ret
    exact ⟨rfl, rfl⟩
  · by_cases h2 : y < x
    · rw [hgt h2]
      clear hlt hgt heq
      go_enter Try.func40, Try.ntmps40
      go_wp2_with fail
      refine (isNaN_any _ _).mono ?_
      rintro e w1 ⟨rfl, rfl⟩
      go_wp2_with fail
      refine (isNaN_any _ _).mono ?_
      rintro e w2 ⟨rfl, rfl⟩
      go_wp2_with fail
      go_ret
      exact ⟨rfl, rfl⟩
    · rw [heq (by omega)]
      clear hlt hgt heq
      go_enter Try.func40, Try.ntmps40
      go_wp2_with fail
      refine (isNaN_any _ _).mono ?_
      rintro e w1 ⟨rfl, rfl⟩
      go_wp2_with fail
      refine (isNaN_any _ _).mono ?_
      rintro e w2 ⟨rfl, rfl⟩
      go_wp2_with fail
      go_ret
      exact ⟨rfl, rfl⟩
end Go.Proofs.Ythbamhfnemdebaa
