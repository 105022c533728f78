/-
  A clock as one part of memory: New, Now, Len, Set, Drop. No condition beside a clock that New made.
-/
import Derived.Test.YtcbjgibcgalppaaTkE
namespace Go.Proofs.Ytcbjgibcgalppaa
open Go.RowKit Go.Shelf
/-- Where the first one is that meets p; -1. -/
def idxF {α : Type} (p : α → Bool) : List α → Nat → Int
  | [], _ => -1
  | x :: l, k => if p x then (k : Int) else idxF p l (k + 1)
theorem idxF_bd {α : Type} [Inhabited α] (p : α → Bool) : ∀ (l : List α) (k : Nat), (idxF p l k = -1 ∧ l.any p = false) ∨ (∃ j, idxF p l k = ((k + j : Nat) : Int) ∧ j < l.length ∧ p (l.getD j default) = true ∧ l.any p = true)
  | [], k => .inl ⟨rfl, rfl⟩
  | x :: l, k => by
    unfold idxF
    cases h : p x with
    | true => exact .inr ⟨0, by simp, by simp, by simpa [List.getD] using h, by simp [h]⟩
    | false =>
      rcases idxF_bd p l (k + 1) with h' | ⟨j, h1, h2, h3, h4⟩
      · exact .inl (by simpa [h] using h')
      · refine .inr ⟨j + 1, by simp [h1]; omega, by simpa using h2, by simpa [List.getD] using h3, by simp at h4; simp [h, h4]⟩
def val_tm : Tm → Value := fun x => match x with | ⟨x0, x1, x2⟩ => .agg #[.int .i64 x0, .int .i64 x1, .int .i64 x2]
def Pred_tm (g : Nat) (lb : Array Value) (p : Tm → Bool) (l : List Tm) (w : World) : Prop :=
  ∀ (W : World) (x : Tm), x ∈ l → Below w.heap.size w W → Calls Try.prog g (#[val_tm x] ++ lb) W fun e w' => e = .returned (.bool (p x)) ∧ Below W.heap.size W w'
theorem cells_tm {w : World} {a : Option Addr} {n c : Nat} {l : List Tm} (hv : RL w (.slice a n c) 3 n (l.flatMap tC)) (hn : l.length = n) (h0 : 0 < n) : ∃ b off, a = some ⟨b, off, none⟩ ∧ b < w.heap.size ∧ ∀ k x, l[k]? = some x → ∀ j u, (tC x)[j]? = some u → w.cell? ⟨b, off + (k * 3 + j), none⟩ = some u := by
  subst hn
  obtain ⟨b, off, c', hv', _, hb, h⟩ := RL.at_ tC_len hv h0
  injection hv' with e1 _ _
  exact ⟨b, off, e1, hb, h⟩
set_option maxHeartbeats 1000000 in
theorem index_tm (v : Value) (l : List Tm) (g : Nat) (lb : Array Value) (p : Tm → Bool) (w : World) (hv : RL w v 3 l.length (l.flatMap tC)) (hl : l.length ≤ 100000) (hp : Pred_tm g lb p l w)
    (eg : ∀ args w, (callFunc g args).run Try.prog w = .ok (.enter g args) w) :
    Calls Try.prog 33 #[v, .func (.func g) #[] lb] w fun e w' => e = .returned (.int .i64 (idxF p l 0)) ∧ Below w.heap.size w w' := by
  have hv2 := hv
  obtain ⟨_, a, c, rfl, _⟩ := hv
  have HP := Lib.hid hp
  clear hp
  generalize hn : l.length = n at *
  replace hn := Lib.hid hn
  replace hv2 := Lib.hid hv2
  go_enter Try.func33, Try.ntmps33
  go_wp2
  go_loopw [8] (fun i wr => ∃ k : Nat, k ≤ n ∧ i = .int .i64 k ∧ Hid (idxF p l 0 = idxF p (l.drop k) k) ∧ Hid (Below w.heap.size w wr)) (fun i _ => n - (intOf i).toNat)
  case atStart => exact ⟨0, Nat.zero_le _, rfl, rfl, Below.refl _ _⟩
  case round =>
    obtain ⟨k, hk, rfl, he, hb⟩ := hrel
    by_cases hlt : k < n
    · obtain ⟨b, off, rfl, hbl, hz⟩ := cells_tm hv2.out hn.out (by omega)
      obtain ⟨x, hx⟩ : ∃ x, l[k]? = some x := ⟨l[k]'(by rw [hn.out]; exact hlt), List.getElem?_eq_getElem _⟩
      have hz := hz k x hx
      have z0 := (hb.out.cell (p := ⟨b, off + k * 3, none⟩) hbl).trans (hz 0 _ rfl)
      have z1 := (hb.out.cell (p := ⟨b, off + k * 3 + 1, none⟩) hbl).trans (hz 1 _ rfl)
      have z2 := (hb.out.cell (p := ⟨b, off + k * 3 + 2, none⟩) hbl).trans (hz 2 _ rfl)
      have E := Lib.hid (show l.drop k = x :: l.drop (k + 1) by
        obtain ⟨h1, h2⟩ := List.getElem?_eq_some_iff.1 hx
        rw [List.drop_eq_getElem_cons h1, h2])
      have hq := Lib.hid (HP.out wr x (List.mem_of_getElem? hx) hb.out)
      have i1 : (0 : Int) ≤ (k : Int) := by omega
      have i2 : (k : Int) < (n : Int) := by omega
      clear hz hx
      obtain ⟨x0, x1, x2⟩ := x
      simp only at z0 z1 z2
      simp only [val_tm] at hq
      go_wp2_with fail
      refine hq.out.mono ?_
      rintro e w1 ⟨rfl, b1⟩
      replace hb := Lib.hid (hb.out.trans (b1.mono hb.out.size))
      clear z0 z1 z2 b1 hq
      cases hpr : p ⟨x0, x1, x2⟩ with
      | true =>
        have E2 := Lib.hid (show idxF p l 0 = (k : Int) by rw [he.out, E.out]; simp only [idxF, hpr, if_true])
        go_wp2_with fail
        go_ret
        exact ⟨by rw [E2.out]; rfl, hb.out⟩
      | false =>
        have E2 := Lib.hid (show idxF p l 0 = idxF p (l.drop (k + 1)) (k + 1) by rw [he.out, E.out]; simp only [idxF, hpr]; rfl)
        go_wp2_with fail
        go_roundw
        case rel => exact ⟨k + 1, by omega, by go_num, E2, hb⟩
        case measure => simp [intOf]; omega
    · have hk2 : k = n := by omega
      have E := Lib.hid (show idxF p l 0 = -1 by rw [he.out, List.drop_eq_nil_of_le (by rw [hn.out]; omega)]; rfl)
      clear he
      go_wp2_with fail
      go_ret
      exact ⟨by rw [E.out]; rfl, hb.out⟩
/-- Is it the timer of that one, of that mark? -/
def keyB (who mark : Int) (t : Tm) : Bool := t.2.1 == who && t.2.2 == mark
set_option maxHeartbeats 4000000 in
theorem pred_place (b0 b1 : Nat) (who mark : Int) (l : List Tm) (w : World) (h0 : w.cell? ⟨b0, 0, none⟩ = some (.int .i64 who)) (h1 : w.cell? ⟨b1, 0, none⟩ = some (.int .i64 mark)) (hb0 : b0 < w.heap.size) (hb1 : b1 < w.heap.size) : Pred_tm 34 #[.pointer (some ⟨b0, 0, none⟩), .pointer (some ⟨b1, 0, none⟩)] (keyB who mark) l w := by
  intro W x _ hW
  obtain ⟨x0, x1, x2⟩ := x
  have hB := Lib.hid ((Sep.start W).alloc #[.int .i64 x0, .int .i64 x1, .int .i64 x2] 61)
  have hBel := Lib.hid (((Sep.start W).alloc #[.int .i64 x0, .int .i64 x1, .int .i64 x2] 61).tail.gold)
  obtain ⟨_, c0, c1, c2, _⟩ := hB.out.b3
  have k0 := (hW.cell (p := ⟨b0, 0, none⟩) hb0).trans h0
  have k1 := (hW.cell (p := ⟨b1, 0, none⟩) hb1).trans h1
  have m0 := (hBel.out.cell (p := ⟨b0, 0, none⟩) (Nat.lt_of_lt_of_le hb0 hW.size)).trans k0
  have m1 := (hBel.out.cell (p := ⟨b1, 0, none⟩) (Nat.lt_of_lt_of_le hb1 hW.size)).trans k1
  clear hB h0 h1 hW k0 k1
  unfold val_tm keyB
  simp only
  by_cases hx : x1 = who
  · subst hx
    rw [beq_self_eq_true, Bool.true_and]
    go_enter Try.func34, Try.ntmps34
    go_wp2_with fail
    go_ret
    exact ⟨rfl, hBel.out⟩
  · have hx' : (x1 == who) = false := beq_eq_false_iff_ne.2 hx
    rw [hx', Bool.false_and]
    go_enter Try.func34, Try.ntmps34
    go_wp2_with fail
    go_ret
    exact ⟨rfl, hBel.out⟩
theorem eg_place : ∀ args w, (callFunc 34 args).run Try.prog w = .ok (.enter 34 args) w := enters_of Try.func34 (by kernel_rfl) rfl
set_option maxHeartbeats 4000000 in
theorem place_any (p : Nat) (fa : Option Addr) (n c : Nat) (nw : Int) (xs : List Tm) (who mark : Int) (w : World) (rs : List Res) (hS : Sep w (cBlk p nw (.slice fa n c) :: tVec (.slice fa n c) n xs :: rs)) (hl : xs.length = n) (hn : n ≤ 1000) :
    Calls Try.prog 26 #[.pointer (some ⟨p, 0, none⟩), .int .i64 who, .int .i64 mark] w fun e w' => e = .returned (.int .i64 (idxF (keyB who mark) xs 0)) ∧ Below w.heap.size w w' := by
  subst hl
  have hA := (hS.alloc #[.int .i64 who] 3).alloc #[.int .i64 mark] 3
  rw [World.size_alloc] at hA
  obtain ⟨hb1, c1, _⟩ := hA.b1
  obtain ⟨hb0, c0, _⟩ := hA.to1.b1
  obtain ⟨_, d0, d1, _⟩ := hS.b2
  have hv := hA.to3.vec_rl
  have HI := Lib.hid (index_tm (.slice fa xs.length c) xs 34 #[.pointer (some ⟨w.heap.size, 0, none⟩), .pointer (some ⟨w.heap.size + 1, 0, none⟩)] (keyB who mark) _ hv (by omega) (pred_place _ _ who mark xs _ c0 c1 hb0 hb1) eg_place)
  have hBel := Lib.hid (((Below.refl w.heap.size w).alloc (Nat.le_refl _) (.cells #[.int .i64 who] 3)).alloc (by simp) (.cells #[.int .i64 mark] 3))
  generalize idxF (keyB who mark) xs 0 = q at *
  generalize xs.length = m at *
  clear hS hA c0 c1 hv hb0 hb1
  go_enter Try.func26, Try.ntmps26
  go_wp2_with fail
  refine HI.out.mono ?_
  rintro e w1 ⟨rfl, b1⟩
  replace b1 := Lib.hid b1
  go_wp2_with fail
  go_ret
  exact ⟨rfl, hBel.out.trans (b1.out.mono hBel.out.size)⟩
-- the plain law
abbrev ltP (a b : Tm) : Prop := ltT a b = true
/-- No two are of one and of one mark. -/
def KeysND (L : List Tm) : Prop := L.Pairwise fun a b => ¬ (a.2.1 = b.2.1 ∧ a.2.2 = b.2.2)
structure ClockOK (xs L : List Tm) : Prop where
  heap : HeapN ltT xs xs.length
  perm : xs.Perm L
  srt : L.Pairwise ltP
  keys : KeysND L
theorem ltP_ne {a b : Tm} (h : ltP a b) : ltT b a = false := ordT.asym _ _ h
theorem lt_tri {a b : Tm} (h : ltT b a = false) (hn : a ≠ b) : ltP a b := by
  unfold ltP
  rw [ltT_no] at h
  rw [ltT_iff]
  obtain ⟨a0, a1, a2⟩ := a
  obtain ⟨b0, b1, b2⟩ := b
  simp only [ne_eq, Prod.mk.injEq] at hn h ⊢
  omega
theorem ltP_trans {a b c : Tm} (h1 : ltP a b) (h2 : ltP b c) : ltP a c := by
  unfold ltP at *
  rw [ltT_iff] at *
  omega
def insT (x : Tm) : List Tm → List Tm
  | [] => [x]
  | y :: L => if ltT y x = true then y :: insT x L else x :: y :: L
theorem insT_perm (x : Tm) : ∀ L, (insT x L).Perm (x :: L)
  | [] => List.Perm.refl _
  | y :: L => by
    unfold insT
    split
    · exact ((insT_perm x L).cons y).trans (List.Perm.swap _ _ _)
    · exact List.Perm.refl _
theorem insT_srt (x : Tm) : ∀ (L : List Tm), L.Pairwise ltP → (∀ y ∈ L, y ≠ x) → (insT x L).Pairwise ltP
  | [], _, _ => by simp [insT]
  | y :: L, h, hn => by
    unfold insT
    obtain ⟨h1, h2⟩ := List.pairwise_cons.1 h
    split
    · rename_i hlt
      refine List.pairwise_cons.2 ⟨fun z hz => ?_, insT_srt x L h2 fun z hz => hn z (List.mem_cons_of_mem _ hz)⟩
      rcases List.mem_cons.1 ((insT_perm x L).mem_iff.1 hz) with rfl | hz
      · exact hlt
      · exact h1 z hz
    · rename_i hlt
      have hxy : ltP x y := lt_tri (by simpa using hlt) (fun e => hn y (List.mem_cons_self) e.symm)
      refine List.pairwise_cons.2 ⟨fun z hz => ?_, h⟩
      rcases List.mem_cons.1 hz with rfl | hz
      · exact hxy
      · exact ltP_trans hxy (h1 z hz)
theorem keys_perm {L M : List Tm} (hp : L.Perm M) (h : KeysND L) : KeysND M := (hp.pairwise_iff (fun {_ _} h => fun e => h ⟨e.1.symm, e.2.symm⟩)).1 h
theorem any_perm {L M : List Tm} (hp : L.Perm M) (p : Tm → Bool) : L.any p = M.any p := by
  rw [Bool.eq_iff_iff, List.any_eq_true, List.any_eq_true]
  constructor
  · rintro ⟨x, h1, h2⟩; exact ⟨x, hp.mem_iff.1 h1, h2⟩
  · rintro ⟨x, h1, h2⟩; exact ⟨x, hp.mem_iff.2 h1, h2⟩
theorem set_ok {xs L : List Tm} {at_ who mark : Int} (h : ClockOK xs L) (hk : L.any (keyB who mark) = false) : ClockOK (pushL ltT xs (at_, who, mark)) (insT (at_, who, mark) L) := by
  obtain ⟨r1, r2⟩ := push_all ordT xs (at_, who, mark) h.heap
  have hk' : ∀ y ∈ L, ¬ (y.2.1 = who ∧ y.2.2 = mark) := fun y hy e => by
    rw [List.any_eq_false] at hk
    exact hk y hy (by unfold keyB; simp [e.1, e.2])
  refine ⟨r1, r2.trans ((h.perm.cons _).trans (insT_perm _ _).symm), insT_srt _ _ h.srt fun y hy e => hk' y hy (by rw [e]; exact ⟨rfl, rfl⟩), keys_perm (insT_perm _ _).symm (List.pairwise_cons.2 ⟨fun y hy e => hk' y hy ⟨e.1.symm, e.2.symm⟩, h.keys⟩)⟩
theorem eraseP_erase : ∀ {L : List Tm} {y : Tm} {who mark : Int}, KeysND L → y ∈ L → keyB who mark y = true → L.eraseP (keyB who mark) = L.erase y
  | [], _, _, _, _, h, _ => absurd h (by simp)
  | z :: L, y, who, mark, hk, h, hy => by
    obtain ⟨k1, k2⟩ := List.pairwise_cons.1 hk
    by_cases hz : z = y
    · subst hz
      rw [List.eraseP_cons_of_pos hy, List.erase_cons_head]
    · have hyL : y ∈ L := by
        rcases List.mem_cons.1 h with e | e
        · exact absurd e.symm hz
        · exact e
      have hnz : ¬ keyB who mark z = true := fun hzk => by
        unfold keyB at hzk hy
        simp at hzk hy
        exact k1 y hyL ⟨by rw [hzk.1, hy.1], by rw [hzk.2, hy.2]⟩
      rw [List.eraseP_cons_of_neg hnz, List.erase_cons_tail (by simpa using hz), eraseP_erase k2 hyL hy]
theorem drop_ok {xs L : List Tm} {who mark : Int} {j n : Nat} (h : ClockOK xs L) (hl : xs.length = n + 1) (hj : j < n + 1) (hk : keyB who mark (gt_ xs j) = true) : ClockOK (remL ltT xs j) (L.eraseP (keyB who mark)) := by
  obtain ⟨r1, r2, _⟩ := rem_all ordT xs j n hl hj h.heap
  have hm : gt_ xs j ∈ L := h.perm.mem_iff.1 (r2.mem_iff.2 List.mem_cons_self)
  have he := eraseP_erase h.keys hm hk
  have hp : (remL ltT xs j).Perm (L.eraseP (keyB who mark)) := by
    rw [he]
    have := (r2.symm.trans h.perm).erase (gt_ xs j)
    rwa [List.erase_cons_head] at this
  exact ⟨r1, hp, h.srt.sublist (List.eraseP_sublist), h.keys.sublist (List.eraseP_sublist)⟩
theorem head_ok {xs L : List Tm} {x : Tm} (h : ClockOK xs (x :: L)) : gt_ xs 0 = x ∧ ClockOK (popL ltT xs) L ∧ xs.length = L.length + 1 := by
  have hlen : xs.length = L.length + 1 := by rw [h.perm.length_eq]; rfl
  obtain ⟨_, _, _, r1, r2⟩ := pop_all ordT xs L.length hlen h.heap
  obtain ⟨k1, k2⟩ := List.pairwise_cons.1 h.srt
  have hg : gt_ xs 0 = x := by
    have hm : gt_ xs 0 ∈ x :: L := h.perm.mem_iff.1 (r2.mem_iff.2 List.mem_cons_self)
    rcases List.mem_cons.1 hm with e | e
    · exact e
    · have h1 := k1 _ e
      obtain ⟨i, hi, hx⟩ := List.mem_iff_getElem.1 (h.perm.mem_iff.2 (List.mem_cons_self (a := x) (l := L)))
      have h2 := heap_min ordT xs _ h.heap i hi
      have h3 : gt_ xs i = x := by simp [gt_, List.getD_eq_getElem?_getD, hi, hx]
      rw [h3] at h2
      rw [show ltT x (gt_ xs 0) = true from h1] at h2
      cases h2
  rw [hg] at r2
  exact ⟨hg, ⟨r1, List.Perm.cons_inv (r2.symm.trans h.perm), k2, (List.pairwise_cons.1 h.keys).2⟩, hlen⟩
theorem clock_nil : ClockOK [] [] := ⟨fun k _ h => absurd h (by simp), List.Perm.refl _, List.Pairwise.nil, List.Pairwise.nil⟩
/-- A clock at p: its time, its timers in order. -/
def clockR (p : Nat) (now : Int) (L : List Tm) : Res := exi fun (x : Option Addr × Nat × List Tm) => star (prop (ClockOK x.2.2 L)) (star (cBlk p now (.slice x.1 L.length x.2.1)) (tVec (.slice x.1 L.length x.2.1) L.length x.2.2))
theorem clock_open {w : World} {p : Nat} {now : Int} {L : List Tm} {rs : List Res} (h : Sep w (clockR p now L :: rs)) : ∃ fa c xs, ClockOK xs L ∧ xs.length = L.length ∧ Sep w (cBlk p now (.slice fa L.length c) :: tVec (.slice fa L.length c) L.length xs :: rs) := by
  obtain ⟨⟨fa, c, xs⟩, h1⟩ := h.gexi
  obtain ⟨h2, h3⟩ := Sep.gprop.1 (Sep.gstar.1 h1)
  exact ⟨fa, c, xs, h2, h2.perm.length_eq, Sep.gstar.1 h3⟩
theorem clock_close {w : World} {p : Nat} {now : Int} {L : List Tm} {rs : List Res} {fa : Option Addr} {c : Nat} {xs : List Tm} (hp : ClockOK xs L) (h : Sep w (cBlk p now (.slice fa L.length c) :: tVec (.slice fa L.length c) L.length xs :: rs)) : Sep w (clockR p now L :: rs) :=
  Sep.exi_mk (fa, c, xs) (Sep.gstar.2 (Sep.gprop.2 ⟨hp, Sep.gstar.2 h⟩))
theorem new_any (w : World) : Calls Try.prog 8 #[] w fun e w' => ∃ p, e = .returned (.pointer (some ⟨p, 0, none⟩)) ∧ Sep w' [clockR p 0 [], old w] := by
  have hS := Lib.hid ((((Sep.start w).alloc #[.int .i64 0, .slice none 0 0] 58).vec_nil 61 3).to1)
  go_enter Try.func8, Try.ntmps8
  go_wp2_with fail
  go_ret
  exact ⟨_, rfl, clock_close clock_nil hS.out⟩
theorem now_any (p : Nat) (now : Int) (L : List Tm) (w : World) (rs : List Res) (hS : Sep w (clockR p now L :: rs)) : Calls Try.prog 11 #[.pointer (some ⟨p, 0, none⟩)] w fun e w' => e = .returned (.int .i64 now) ∧ w' = w := by
  obtain ⟨fa, c, xs, _, _, hS1⟩ := clock_open hS
  obtain ⟨_, c0, c1, _⟩ := hS1.b2
  clear hS hS1
  go_enter Try.func11, Try.ntmps11
  go_wp2_with fail
  go_ret
  exact ⟨rfl, rfl⟩
theorem clen_any (p : Nat) (now : Int) (L : List Tm) (w : World) (rs : List Res) (hS : Sep w (clockR p now L :: rs)) : Calls Try.prog 13 #[.pointer (some ⟨p, 0, none⟩)] w fun e w' => e = .returned (.int .i64 L.length) ∧ w' = w := by
  obtain ⟨fa, c, xs, _, _, hS1⟩ := clock_open hS
  obtain ⟨_, c0, c1, _⟩ := hS1.b2
  clear hS hS1
  generalize L.length = n at *
  go_enter Try.func13, Try.ntmps13
  go_wp2_with fail
  go_ret
  exact ⟨rfl, rfl⟩
set_option maxHeartbeats 1000000 in
theorem set_early (p : Nat) (now : Int) (L : List Tm) (at_ who mark : Int) (w : World) (rs : List Res) (hS : Sep w (clockR p now L :: rs)) (h : at_ ≤ now) : Calls Try.prog 9 #[.pointer (some ⟨p, 0, none⟩), .int .i64 at_, .int .i64 who, .int .i64 mark] w fun e w' => e = .returned (.int .i64 2) ∧ Below w.heap.size w w' := by
  obtain ⟨fa, c, xs, _, _, hS1⟩ := clock_open hS
  obtain ⟨_, c0, c1, _⟩ := hS1.b2
  clear hS hS1
  go_enter Try.func9, Try.ntmps9
  go_wp2_with fail
  go_ret
  exact ⟨rfl, Below.refl _ _⟩
set_option maxHeartbeats 1000000 in
theorem set_twice (p : Nat) (now : Int) (L : List Tm) (at_ who mark : Int) (w : World) (rs : List Res) (hS : Sep w (clockR p now L :: rs)) (h : now < at_) (hk : L.any (keyB who mark) = true) (hn : L.length ≤ 900) : Calls Try.prog 9 #[.pointer (some ⟨p, 0, none⟩), .int .i64 at_, .int .i64 who, .int .i64 mark] w fun e w' => e = .returned (.int .i64 4) ∧ Below w.heap.size w w' := by
  obtain ⟨fa, c, xs, hok, hl, hS1⟩ := clock_open hS
  obtain ⟨_, c0, c1, _⟩ := hS1.b2
  have HP := Lib.hid (place_any p fa L.length c now xs who mark w rs hS1 hl (by omega))
  rw [← any_perm hok.perm] at hk
  rcases idxF_bd (keyB who mark) xs 0 with ⟨_, h2⟩ | ⟨j, h1, h2, _⟩
  · rw [h2] at hk; cases hk
  · rw [h1, Nat.zero_add] at HP
    have i1 : (0 : Int) ≤ (j : Int) := by omega
    have i0 : ¬ at_ ≤ now := by omega
    clear hS hS1 hok hk h1
    go_enter Try.func9, Try.ntmps9
    go_wp2_with fail
    refine HP.out.mono ?_
    rintro e w1 ⟨rfl, b1⟩
    replace b1 := Lib.hid b1
    go_wp2_with fail
    go_ret
    exact ⟨rfl, b1.out⟩
set_option maxHeartbeats 1000000 in
theorem set_new (p : Nat) (now : Int) (L : List Tm) (at_ who mark : Int) (w : World) (rs : List Res) (hS : Sep w (clockR p now L :: rs)) (h : now < at_) (hk : L.any (keyB who mark) = false) (hn : L.length ≤ 900) : Calls Try.prog 9 #[.pointer (some ⟨p, 0, none⟩), .int .i64 at_, .int .i64 who, .int .i64 mark] w fun e w' => e = .returned (.int .i64 0) ∧ Sep w' (clockR p now (insT (at_, who, mark) L) :: rs) := by
  obtain ⟨fa, c, xs, hok, hl, hS1⟩ := clock_open hS
  obtain ⟨_, c0, c1, _⟩ := hS1.b2
  have HP := Lib.hid (place_any p fa L.length c now xs who mark w rs hS1 hl (by omega))
  have hok2 := Lib.hid (set_ok (at_ := at_) hok hk)
  rw [← any_perm hok.perm] at hk
  have hlen := Lib.hid (insT_perm (at_, who, mark) L).length_eq
  have hq : idxF (keyB who mark) xs 0 = -1 := by
    rcases idxF_bd (keyB who mark) xs 0 with ⟨h1, _⟩ | ⟨j, _, _, _, h2⟩
    · exact h1
    · rw [h2] at hk; cases hk
  rw [hq] at HP
  have i0 : ¬ at_ ≤ now := by omega
  have HU := Lib.hid (fun V hV => hpush_any p fa L.length c now xs (at_, who, mark) V rs hV hl (by omega))
  simp only [tV] at HU
  replace hS1 := Lib.hid hS1
  generalize pushL ltT xs (at_, who, mark) = ys at *
  generalize insT (at_, who, mark) L = M at *
  clear hS hok hk hq
  go_enter Try.func9, Try.ntmps9
  go_wp2_with fail
  refine HP.out.mono ?_
  rintro e w1 ⟨rfl, b1⟩
  replace hS1 := Lib.hid (hS1.out.below b1)
  clear b1 HP
  go_wp2_with fail
  refine (HU.out _ hS1.out).mono ?_
  rintro e w2 ⟨rfl, g', c', hS2⟩
  replace hS2 := Lib.hid hS2
  clear HU hS1
  go_wp2_with fail
  go_ret
  refine ⟨rfl, clock_close (fa := some ⟨g', 0, none⟩) (c := c') hok2.out ?_⟩
  rw [show M.length = L.length + 1 from hlen.out]
  exact hS2.out
set_option maxHeartbeats 1000000 in
theorem drop_no (p : Nat) (now : Int) (L : List Tm) (who mark : Int) (w : World) (rs : List Res) (hS : Sep w (clockR p now L :: rs)) (hk : L.any (keyB who mark) = false) (hn : L.length ≤ 900) : Calls Try.prog 10 #[.pointer (some ⟨p, 0, none⟩), .int .i64 who, .int .i64 mark] w fun e w' => e = .returned (.bool false) ∧ Below w.heap.size w w' := by
  obtain ⟨fa, c, xs, hok, hl, hS1⟩ := clock_open hS
  obtain ⟨_, c0, c1, _⟩ := hS1.b2
  have HP := Lib.hid (place_any p fa L.length c now xs who mark w rs hS1 hl (by omega))
  rw [← any_perm hok.perm] at hk
  have hq : idxF (keyB who mark) xs 0 = -1 := by
    rcases idxF_bd (keyB who mark) xs 0 with ⟨h1, _⟩ | ⟨j, _, _, _, h2⟩
    · exact h1
    · rw [h2] at hk; cases hk
  rw [hq] at HP
  clear hS hS1 hok hk hq
  go_enter Try.func10, Try.ntmps10
  go_wp2_with fail
  refine HP.out.mono ?_
  rintro e w1 ⟨rfl, b1⟩
  replace b1 := Lib.hid b1
  go_wp2_with fail
  go_ret
  exact ⟨rfl, b1.out⟩
set_option maxHeartbeats 1000000 in
theorem drop_yes (p : Nat) (now : Int) (L : List Tm) (who mark : Int) (w : World) (rs : List Res) (hS : Sep w (clockR p now L :: rs)) (hk : L.any (keyB who mark) = true) (hn : L.length ≤ 900) : Calls Try.prog 10 #[.pointer (some ⟨p, 0, none⟩), .int .i64 who, .int .i64 mark] w fun e w' => e = .returned (.bool true) ∧ Sep w' (clockR p now (L.eraseP (keyB who mark)) :: rs) := by
  obtain ⟨fa, c, xs, hok, hl, hS1⟩ := clock_open hS
  obtain ⟨_, c0, c1, _⟩ := hS1.b2
  have HP := Lib.hid (place_any p fa L.length c now xs who mark w rs hS1 hl (by omega))
  have hk2 := hk
  rw [← any_perm hok.perm] at hk
  rcases idxF_bd (keyB who mark) xs 0 with ⟨_, h2⟩ | ⟨j, h1, h2, h3, _⟩
  · rw [h2] at hk; cases hk
  · rw [h1, Nat.zero_add] at HP
    have i1 : (0 : Int) ≤ (j : Int) := by omega
    obtain ⟨n, hln⟩ : ∃ n, L.length = n + 1 := ⟨L.length - 1, by omega⟩
    have hok2 := Lib.hid (drop_ok hok (by rw [hl, hln]) (by omega) h3)
    have hlen := Lib.hid (show (L.eraseP (keyB who mark)).length = n by
      obtain ⟨y, hy, hy2⟩ := List.any_eq_true.1 hk2
      rw [List.length_eraseP_of_mem hy hy2, hln]
      rfl)
    rw [hln] at hS1 c1
    obtain ⟨g, rfl⟩ := vec_some hS1.to1 (by omega)
    have HU := Lib.hid (fun V hV => hrem_any p g n c j now xs V rs hV (by rw [hl, hln]) (by omega) (by omega) hok.heap)
    replace hS1 := Lib.hid hS1
    generalize remL ltT xs j = ys at *
    generalize L.eraseP (keyB who mark) = M at *
    clear hS hok hk hk2 h1 h2 h3 hl hln
    go_enter Try.func10, Try.ntmps10
    go_wp2_with fail
    refine HP.out.mono ?_
    rintro e w1 ⟨rfl, b1⟩
    replace hS1 := Lib.hid (hS1.out.below b1)
    clear b1 HP
    go_wp2_with fail
    refine (HU.out _ hS1.out).mono ?_
    rintro e w2 ⟨rfl, hS2⟩
    replace hS2 := Lib.hid hS2
    clear HU hS1
    go_wp2_with fail
    go_ret
    refine ⟨rfl, clock_close (fa := some ⟨g, 0, none⟩) (c := c) hok2.out ?_⟩
    rw [hlen.out]
    exact hS2.out
end Go.Proofs.Ytcbjgibcgalppaa
