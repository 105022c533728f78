/-
  Contracts and plain laws that the walk leans on, part 6. No condition.
-/
import Derived.Test.YthbamhfnemdebaaGreatZVc5
namespace Go.Proofs.YthbamhfnemdebaaGreat
open Go.RowKit
set_option maxHeartbeats 4000000 in
set_option maxRecDepth 100000 in
theorem cycle_any (v : Value) (L : List Ed) (w : World) (hv : RL w v 2 L.length (L.flatMap Ed.cells)) (hl : L.length ≤ 1000) :
    Calls Tryz.prog 22 #[v] w fun e w' => ∃ (a : Option Addr) (c : Nat), e = .returned (.tuple #[.slice a (cyc L).1.length c, .bool (cyc L).2]) ∧ Sep w' [vec 3 1 (.slice a (cyc L).1.length c) (cyc L).1.length ((cyc L).1.map (Value.int .i64)), old w] := by
  unfold cyc
  have HN := Lib.hid (nexts_any v L w hv hl)
  have htg := tgts_nx L
  have hwl := Lib.hid (wyN_len L)
  go_enter Tryz.func22, Tryz.ntmps22
  go_wp2_with fail
  refine HN.out.mono ?_
  rintro e w1 ⟨b, es, R, rfl, hR, hN, hV⟩
  have HS := Lib.hid (sorted_any v L w1 (hv.below hV.tail.tail.gold) (by omega))
  clear HN
  go_wp2_with fail
  refine HS.out.mono ?_
  rintro e w2 ⟨a, c, rfl, q⟩
  have hV2 := Lib.hid (q.graft hV)
  have hsl := sdE_len L
  clear HS q hV hv
  have hfin : ∃ r, Hid (cycG (nxL L) (sdE L) = r) := ⟨_, rfl⟩
  obtain ⟨res, hres⟩ := hfin
  have hres2 := hres
  generalize sdE L = S at hsl hV2 hres2 ⊢
  obtain ⟨n, hn⟩ : ∃ n, Hid (S.length = n) := ⟨_, rfl⟩
  rw [hn.out] at hsl hV2 ⊢
  have hW := Lib.hid (fun fr W rs' h => ways_any b es R fr W rs' h hN (by rw [hR]; omega))
  simp only [hR] at hW
  generalize nxL L = N at hW hres2 hwl
  replace hW := Lib.hid hW.out
  clear hN
  replace hwl := Lib.hid (fun fr => Nat.le_trans (hwl.out fr) hl)
  obtain ⟨i0, hi0, hz0, hz1, hz2⟩ := info_parts info_int
  replace hV2 := Lib.hid hV2
  go_wp2_with fail
  go_loopg [18] n (fun gm s18 W => ∃ k : Nat, k ≤ n ∧ gm = n - k ∧ s18 = .int .i64 k ∧ Hid (res = cycG N (S.drop k)) ∧ Hid (Sep W [vec 36 2 (.slice a n c) n (S.flatMap Ed.cells), mapr ekI (id : Value → Value) b es, rowsR R, old w]))
  case atStart => exact ⟨0, Nat.zero_le _, rfl, rfl, Lib.hid hres2.out.symm, hV2⟩
  case round =>
    clear hV2 hres2
    obtain ⟨k, hk, hgm, rfl, hE, hV⟩ := hrel
    by_cases hlt : k < n
    · obtain ⟨g, rfl, _, _, zz, _⟩ := hV.out.vec_at ed_len hn.out hlt
      have hg : S.getD k default = S[k]'(by rw [hn.out]; exact hlt) := by simp [List.getD, show k < S.length by rw [hn.out]; exact hlt]
      have hD := Lib.hid (show S.drop k = S.getD k default :: S.drop (k + 1) by rw [hg]; exact List.drop_eq_getElem_cons (by rw [hn.out]; exact hlt))
      rw [hD.out, cycG_cons] at hE
      generalize S.getD k default = ed at *
      obtain ⟨fr, tgt⟩ := ed
      have z0 := zz 0 _ rfl
      have z1 := zz 1 _ rfl
      rw [Nat.add_zero] at z0
      simp only at hE
      have i1 : (0 : Int) ≤ (k : Int) := by omega
      have i2 : (k : Int) < (n : Int) := by omega
      clear zz hg hD
      have hB := Lib.hid (hV.out.alloc #[.int .i64 fr, .int .i64 tgt] 36)
      clear hV
      obtain ⟨_, c0, c1, _⟩ := hB.out.b2
      go_wp2_with fail
      replace hB := Lib.hid (hB.out.to3.to3)
      generalize wr.heap.size = EB at *
      refine (hW.out fr _ _ hB.out).mono ?_
      rintro e w3 ⟨mb, a2, c2, bk, rfl, hb, hbl, q⟩
      obtain rfl := wyN_of hb
      clear hb hbl hB
      have hV := Lib.hid q.drop1.to3
      clear q
      have hkl := hwl.out fr
      have hnd := Lib.hid (wyN_nodup N fr)
      have htr := Lib.hid (wyN_tr N fr)
      have hst := Lib.hid (fun h => onB_start (N := N) (fr := fr) h)
      unfold rsC at hE
      generalize wyN N fr = bk at *
      obtain ⟨_, c0, c1, _⟩ := hV.out.b2
      cases hh : hasL bk fr with
      | false =>
        rw [hh, if_neg (by simp)] at hE
        generalize hlv : ((getL bk fr).map ekI).getD (.int .i64 0) = lv at *
        go_wp2_with (at_lookup; refine wpList_lookup_map hV.out.to1 lawI und_back rfl (.tmp 30) (.tmp 32) true rfl (zero_int _) rfl fr rfl ?_; rw [if_pos rfl, hh, hlv])
        go_roundg (n - (k + 1))
        case measure => omega
        case rel => exact ⟨k + 1, by omega, rfl, by go_num, hE, Lib.hid hV.out.drop1.tail.to2⟩
      | true =>
        rw [hh, if_pos rfl] at hE
        replace hst := Lib.hid (hst.out (hasL_iff.1 hh))
        have hlv : ∀ x, ((getL bk x).map ekI).getD (.int .i64 0) = .int .i64 (stepB bk x) := fun x => by unfold stepB; cases getL bk x <;> rfl
        go_wp2_with (at_lookup; first | (refine wpList_lookup_map hV.out.to1 lawI und_back rfl (.tmp 30) (.tmp 32) true rfl (zero_int _) rfl fr rfl ?_; rw [if_pos rfl, hh, hlv]) | (refine wpList_lookup_map hV.out.to1 lawI und_back rfl (.tmp 38) (.tmp 40) false rfl (zero_int _) rfl fr rfl ?_; rw [if_neg (by simp), hlv]))
        generalize hD : bk.length = D at *
        obtain ⟨P, hP⟩ : ∃ P, Hid (pathB bk fr D (stepB bk fr) = P) := ⟨_, rfl⟩
        rw [hP.out] at hE
        have hV0 := Lib.hid (hV.out.vec_nil 3 1)
        replace hD := Lib.hid hD
        clear hV hh
        go_loopg [11, 12] D (fun gm s11 s12 W => ∃ (o : List Int) (x : Int) (ao : Option Addr) (co f : Nat), gm = f ∧ o.length + f = D ∧ s11 = .slice ao o.length co ∧ s12 = .int .i64 x ∧ Hid (onB bk fr f x) ∧ Hid (P = o ++ pathB bk fr f x) ∧ Hid (Sep W [vec 3 1 (.slice ao o.length co) o.length (o.map (Value.int .i64)), blk EB 36 #[.int .i64 fr, .int .i64 tgt], mapr ekI ekI mb bk, mapr ekI (id : Value → Value) b es, rowsR R, vec 36 2 (.slice (some ⟨g, 0, none⟩) n c) n (S.flatMap Ed.cells), old w]))
        case atStart => exact ⟨[], stepB bk fr, none, 0, D, rfl, by simp, rfl, rfl, hst, Lib.hid (by rw [← hP.out]; rfl), hV0⟩
        case round =>
          clear hV0 hst
          obtain ⟨o, x, ao, co, f, hg2, hol, rfl, rfl, hon, hPo, hV⟩ := hrel
          obtain ⟨_, c0, c1, _⟩ := hV.out.to1.b2
          have hoD := Lib.hid (show o.length ≤ D by omega)
          have h1c : Hid (∀ y, ∀ u ∈ ([.int .i64 y] : List Value), u.oneCell' = true) := Lib.hid (by simp [Value.oneCell'])
          by_cases hx : fr = x
          · subst hx
            rw [hPo.out, pathB_fr, List.append_nil] at hE
            have hkl2 := Lib.hid hkl
            clear hPo hkl
            go_wp2_with (at_builtin; refine wpList_append_sep (hV.out.allocG _) rfl _ _ 24 rfl i0 _ 8 Tryz.underlying24 hi0 hz0 hz1 hz2 rfl (by decide) rfl 1 [.int .i64 fr] (SrcA.one _ _ _ _) (h1c.out _) (by have := hoD.out; have := hkl2.out; simp only [maxLen]; omega) (by have := hoD.out; have := hkl2.out; omega) ?_; intro oa' oc' w4 q2; replace q2 := Lib.hid q2)
            have hRv := Lib.hid (revI_any oa' (o.length + 1) oc' (o ++ [fr]) w4 _ (by rw [List.map_append]; exact q2.out) (by simp) (by omega) (by have := hoD.out; have := hkl2.out; omega))
            refine hRv.out.mono ?_
            rintro e w5 ⟨rfl, q3⟩
            replace q3 := Lib.hid q3
            clear hRv q2
            go_wp2_with fail
            refine bodyPost_ret (v := .tuple #[.slice oa' (o.length + 1) oc', .bool true]) (by simp [results, Tryz.results22, go_sem, *]) rfl ⟨oa', oc', ?_, ?_⟩
            · rw [hres.out, hE.out]; simp
            · rw [hres.out, hE.out]
              have h := q3.out.drop1.drop1.drop1.drop1.drop1
              simpa using h
          · have hx2 : (x == fr) = false := by rw [beq_eq_false_iff_ne]; exact Ne.symm hx
            have hx3 : ¬ x = fr := Ne.symm hx
            obtain ⟨f, rfl⟩ : ∃ f', f = f' + 1 := ⟨f - 1, by have := onB_pos hon.out hx3; omega⟩
            have hon2 := Lib.hid (onB_step hnd.out htr.out hon.out hx3)
            rw [pathB_ne _ _ hx3] at hPo
            have hkl2 := Lib.hid hkl
            clear hon hkl
            go_wp2_with (first | (at_builtin; refine wpList_append_sep (hV.out.allocG _) rfl _ _ 24 rfl i0 _ 8 Tryz.underlying24 hi0 hz0 hz1 hz2 rfl (by decide) rfl 1 [.int .i64 x] (SrcA.one _ _ _ _) (h1c.out _) (by have := hoD.out; have := hkl2.out; simp only [maxLen]; omega) (by have := hoD.out; have := hkl2.out; omega) ?_; intro oa' oc' w4 q2; replace q2 := Lib.hid q2) | (at_lookup; refine wpList_lookup_map q2.out.to2 lawI und_back rfl (.tmp 46) (.tmp 47) false rfl (zero_int _) rfl x rfl ?_; rw [if_neg (by simp), hlv]))
            go_roundg f
            case measure => omega
            case rel => exact ⟨o ++ [x], stepB bk x, oa', oc', f, rfl, by simp; omega, by simp, rfl, hon2, Lib.hid (by rw [hPo.out]; simp), Lib.hid (by have h := q2.out; simpa using h)⟩
    · have hkn : k = n := by omega
      subst hkn
      have hd : S.drop k = [] := by rw [← hn.out, List.drop_length]
      rw [hd] at hE
      go_wp2_with fail
      refine bodyPost_ret (v := .tuple #[.slice none 0 0, .bool false]) (by simp [results, Tryz.results22, go_sem, *]) rfl ⟨none, 0, ?_, ?_⟩
      · rw [hres.out, hE.out]; rfl
      · rw [hres.out, hE.out]
        exact (hV.out.tail.tail.tail.vec_nil 3 1)
end Go.Proofs.YthbamhfnemdebaaGreat
namespace Go.Proofs.YthbamhfnemdebaaGreat
open Go.RowKit
structure Ag where
  txn : Int
  age : Int
  deriving DecidableEq, Inhabited
def Ag.cells (e : Ag) : List Value := [.int .i64 e.txn, .int .i64 e.age]
theorem ag_len (e : Ag) : e.cells.length = 2 := rfl
def val_ag : Ag → Value := fun x => match x with | ⟨tx, ag⟩ => .agg #[.int .i64 tx, .int .i64 ag]
def Pred_ag (g : Nat) (lb : Array Value) (p : Ag → Bool) (l : List Ag) (w : World) : Prop :=
  ∀ (W : World) (x : Ag), x ∈ l → Below w.heap.size w W → Calls Tryz.prog g (#[val_ag x] ++ lb) W fun e w' => e = .returned (.bool (p x)) ∧ Below W.heap.size W w'
theorem cells_ag {w : World} {a : Option Addr} {n c : Nat} {l : List Ag} (hv : RL w (.slice a n c) 2 n (l.flatMap Ag.cells)) (hn : l.length = n) (h0 : 0 < n) : ∃ b off, a = some ⟨b, off, none⟩ ∧ b < w.heap.size ∧ ∀ k x, l[k]? = some x → ∀ j u, (Ag.cells x)[j]? = some u → w.cell? ⟨b, off + (k * 2 + j), none⟩ = some u := by
  subst hn
  obtain ⟨b, off, c', hv', _, hb, h⟩ := RL.at_ ag_len hv h0
  injection hv' with e1 _ _
  exact ⟨b, off, e1, hb, h⟩
set_option maxHeartbeats 1000000 in
theorem index_ag (v : Value) (l : List Ag) (g : Nat) (lb : Array Value) (p : Ag → Bool) (w : World) (hv : RL w v 2 l.length (l.flatMap Ag.cells)) (hl : l.length ≤ 100000) (hp : Pred_ag g lb p l w)
    (eg : ∀ args w, (callFunc g args).run Tryz.prog w = .ok (.enter g args) w) :
    Calls Tryz.prog 20 #[v, .func (.func g) #[] lb] w fun e w' => e = .returned (.int .i64 (idxF p l 0)) ∧ Below w.heap.size w w' := by
  have hv2 := hv
  obtain ⟨_, a, c, rfl, _⟩ := hv
  have HP := Lib.hid hp
  clear hp
  generalize hn : l.length = n at *
  replace hn := Lib.hid hn
  replace hv2 := Lib.hid hv2
  go_enter Tryz.func20, Tryz.ntmps20
  go_wp2
  go_loopw [8] (fun i wr => ∃ k : Nat, k ≤ n ∧ i = .int .i64 k ∧ Hid (idxF p l 0 = idxF p (l.drop k) k) ∧ Hid (Below w.heap.size w wr)) (fun i _ => n - (intOf i).toNat)
  case atStart => exact ⟨0, Nat.zero_le _, rfl, rfl, Below.refl _ _⟩
  case round =>
    obtain ⟨k, hk, rfl, he, hb⟩ := hrel
    by_cases hlt : k < n
    · obtain ⟨b, off, rfl, hbl, hz⟩ := cells_ag hv2.out hn.out (by omega)
      obtain ⟨x, hx⟩ : ∃ x, l[k]? = some x := ⟨l[k]'(by rw [hn.out]; exact hlt), List.getElem?_eq_getElem _⟩
      have hz := hz k x hx
      have z0 := (hb.out.cell (p := ⟨b, off + k * 2, none⟩) hbl).trans (hz 0 _ rfl)
      have z1 := (hb.out.cell (p := ⟨b, off + k * 2 + 1, none⟩) hbl).trans (hz 1 _ rfl)
      have E := Lib.hid (show l.drop k = x :: l.drop (k + 1) by
        obtain ⟨h1, h2⟩ := List.getElem?_eq_some_iff.1 hx
        rw [List.drop_eq_getElem_cons h1, h2])
      have hq := Lib.hid (HP.out wr x (List.mem_of_getElem? hx) hb.out)
      have i1 : (0 : Int) ≤ (k : Int) := by omega
      have i2 : (k : Int) < (n : Int) := by omega
      clear hz hx
      obtain ⟨tx, ag⟩ := x
      simp only at z0 z1
      simp only [val_ag] at hq
      go_wp2_with fail
      refine hq.out.mono ?_
      rintro e w1 ⟨rfl, b1⟩
      replace hb := Lib.hid (hb.out.trans (b1.mono hb.out.size))
      clear z0 z1 b1 hq
      cases hpr : p ⟨tx, ag⟩ with
      | true =>
        have E2 := Lib.hid (show idxF p l 0 = (k : Int) by rw [he.out, E.out]; simp only [idxF, hpr, if_true])
        go_wp2_with fail
        go_ret
        exact ⟨by rw [E2.out]; rfl, hb.out⟩
      | false =>
        have E2 := Lib.hid (show idxF p l 0 = idxF p (l.drop (k + 1)) (k + 1) by rw [he.out, E.out]; simp only [idxF, hpr]; rfl)
        go_wp2_with fail
        go_roundw
        case rel => exact ⟨k + 1, by omega, by go_num, E2, hb⟩
        case measure => simp [intOf]; omega
    · have hk2 : k = n := by omega
      have E := Lib.hid (show idxF p l 0 = -1 by rw [he.out, List.drop_eq_nil_of_le (by rw [hn.out]; omega)]; rfl)
      clear he
      go_wp2_with fail
      go_ret
      exact ⟨by rw [E.out]; rfl, hb.out⟩
theorem idxF_find {α : Type} (p : α → Bool) : ∀ (l : List α) (k : Nat), (idxF p l k = -1 ∧ l.find? p = none) ∨ ∃ (j : Nat) (x : α), idxF p l k = ((k + j : Nat) : Int) ∧ l[j]? = some x ∧ l.find? p = some x
  | [], k => .inl ⟨rfl, rfl⟩
  | x :: l, k => by
    unfold idxF
    rw [List.find?_cons]
    cases h : p x with
    | true => exact .inr ⟨0, x, by simp, rfl, rfl⟩
    | false =>
      simp only [Bool.false_eq_true, if_false]
      rcases idxF_find p l (k + 1) with h1 | ⟨j, y, h1, h2, h3⟩
      · exact .inl h1
      · exact .inr ⟨j + 1, y, by rw [h1]; omega, by simpa using h2, h3⟩
/-- A transaction's age. -/
def ageL (A : List Ag) (t : Int) : Int := ((A.find? fun a => a.txn == t).map (·.age)).getD 0
set_option maxHeartbeats 4000000 in
theorem pred_age (tb : Nat) (t : Int) (A : List Ag) (w : World) (h0 : w.cell? ⟨tb, 0, none⟩ = some (.int .i64 t)) (hb : tb < w.heap.size) : Pred_ag 21 #[.pointer (some ⟨tb, 0, none⟩)] (fun a => a.txn == t) A w := by
  intro W x _ hW
  obtain ⟨tx, ag⟩ := x
  have hB := Lib.hid ((Sep.start W).alloc #[.int .i64 tx, .int .i64 ag] 47)
  have hBel := Lib.hid (((Sep.start W).alloc #[.int .i64 tx, .int .i64 ag] 47).tail.gold)
  obtain ⟨_, c0, c1, _⟩ := hB.out.b2
  have h1 := (hW.cell (p := ⟨tb, 0, none⟩) hb).trans h0
  have h2 := (hBel.out.cell (p := ⟨tb, 0, none⟩) (Nat.lt_of_lt_of_le hb hW.size)).trans h1
  clear hB h1 h0 hW
  unfold val_ag
  simp only
  go_enter Tryz.func21, Tryz.ntmps21
  go_wp2_with fail
  go_ret
  exact ⟨rfl, hBel.out⟩
theorem eg_age : ∀ args w, (callFunc 21 args).run Tryz.prog w = .ok (.enter 21 args) w := enters_of Tryz.func21 (by kernel_rfl) rfl
set_option maxHeartbeats 4000000 in
theorem age_any (v : Value) (A : List Ag) (t : Int) (w : World) (hv : RL w v 2 A.length (A.flatMap Ag.cells)) (hl : A.length ≤ 1000) :
    Calls Tryz.prog 9 #[v, .int .i64 t] w fun e w' => e = .returned (.int .i64 (ageL A t)) ∧ Below w.heap.size w w' := by
  have hB := Lib.hid ((Sep.start w).alloc #[.int .i64 t] 3)
  have hv2 := Lib.hid (hv.below hB.out.tail.gold)
  have hI := Lib.hid (index_ag v A 21 #[.pointer (some ⟨w.heap.size, 0, none⟩)] (fun a => a.txn == t) _ hv2.out (by omega) (pred_age _ t A _ hB.out.b1.2.1 hB.out.b1.1) eg_age)
  have hf := Lib.hid (idxF_find (fun a : Ag => a.txn == t) A 0)
  have hage : ageL A t = ((A.find? fun a => a.txn == t).map (·.age)).getD 0 := rfl
  have hcl := Lib.hid (fun W (h : RL W v 2 A.length (A.flatMap Ag.cells)) (h0 : 0 < A.length) => RL.at_ ag_len h h0)
  rw [hage]
  clear hage hv
  generalize (A.find? fun a => a.txn == t) = F at *
  generalize idxF (fun a : Ag => a.txn == t) A 0 = I at *
  go_enter Tryz.func9, Tryz.ntmps9
  go_wp2_with fail
  refine hI.out.mono ?_
  rintro e w2 ⟨rfl, q⟩
  replace hB := Lib.hid (hB.out.below q)
  replace hv2 := Lib.hid (hv2.out.below q)
  clear hI q
  rcases hf.out with ⟨rfl, rfl⟩ | ⟨j, x, rfl, hj, rfl⟩
  · go_wp2_with fail
    go_ret
    exact ⟨rfl, hB.out.tail.gold⟩
  · have hjl := (List.getElem?_eq_some_iff.1 hj).1
    obtain ⟨b, off, c, rfl, _, hb, zz⟩ := hcl.out w2 hv2.out (by omega)
    have z1 := zz j x hj 1 _ rfl
    rw [← Nat.add_assoc] at z1
    clear zz
    rw [Nat.zero_add]
    have i0 : ¬ (j : Int) < 0 := by omega
    have i1 : (0 : Int) ≤ (j : Int) := by omega
    have i2 : (j : Int) < (A.length : Int) := by omega
    go_wp2_with fail
    go_ret
    exact ⟨rfl, hB.out.tail.gold⟩
theorem isNaN_any (x : Int) (w : World) : Calls Tryz.prog 51 #[.int .i64 x] w fun e w' => e = .returned (.bool false) ∧ w' = w := by
  have h : (x != x) = false := by simp
  go_enter Tryz.func51, Tryz.ntmps51
  go_wp2_with fail
  go_ret
  exact ⟨rfl, rfl⟩
theorem compare64_any (x y : Int) (w : World) : Calls Tryz.prog 35 #[.int .i64 x, .int .i64 y] w fun e w' => e = .returned (.int .i64 (Lib.compareInt x y)) ∧ w' = w := by
  have hlt : x < y → Lib.compareInt x y = -1 := fun h => by unfold Lib.compareInt; simp [h]
  have hgt : y < x → Lib.compareInt x y = 1 := fun h => by
    have h2 : ¬ x < y := by omega
    unfold Lib.compareInt; simp [h, h2]
  have heq : x = y → Lib.compareInt x y = 0 := fun h => by
    have h2 : ¬ x < y := by omega
    have h3 : ¬ y < x := by omega
    unfold Lib.compareInt; simp [h2, h3]
  by_cases h1 : x < y
  · rw [hlt h1]
    clear hlt hgt heq
    go_enter Tryz.func35, Tryz.ntmps35
    go_wp2_with fail
    refine (isNaN_any _ _).mono ?_
    rintro e w1 ⟨rfl, rfl⟩
    go_wp2_with fail
    refine (isNaN_any _ _).mono ?_
    rintro e w2 ⟨rfl, rfl⟩
    go_wp2_with fail
    go_ret
    exact ⟨rfl, rfl⟩
  · by_cases h2 : y < x
    · rw [hgt h2]
      clear hlt hgt heq
      go_enter Tryz.func35, Tryz.ntmps35
      go_wp2_with fail
      refine (isNaN_any _ _).mono ?_
      rintro e w1 ⟨rfl, rfl⟩
      go_wp2_with fail
      refine (isNaN_any _ _).mono ?_
      rintro e w2 ⟨rfl, rfl⟩
      go_wp2_with fail
      go_ret
      exact ⟨rfl, rfl⟩
    · rw [heq (by omega)]
      clear hlt hgt heq
      go_enter Tryz.func35, Tryz.ntmps35
      go_wp2_with fail
      refine (isNaN_any _ _).mono ?_
      rintro e w1 ⟨rfl, rfl⟩
      go_wp2_with fail
      refine (isNaN_any _ _).mono ?_
      rintro e w2 ⟨rfl, rfl⟩
      go_wp2_with fail
      go_ret
      exact ⟨rfl, rfl⟩
end Go.Proofs.YthbamhfnemdebaaGreat
namespace Go.Proofs.YthbamhfnemdebaaGreat
open Go.RowKit
/-- How two compare: by age, then by number. -/
def cmpY (A : List Ag) (x y : Int) : Int := if Lib.compareInt (ageL A x) (ageL A y) ≠ 0 then Lib.compareInt (ageL A x) (ageL A y) else Lib.compareInt x y
theorem Below.drew1 (w : World) : Below w.heap.size w w.drew := ((Sep.start w).drew).gold
set_option maxHeartbeats 4000000 in
set_option maxRecDepth 100000 in
theorem younger_any (bx : Nat) (v : Value) (A : List Ag) (x y : Int) (w : World) (h0 : w.cell? ⟨bx, 0, none⟩ = some v) (hbx : bx < w.heap.size) (hv : RL w v 2 A.length (A.flatMap Ag.cells)) (hl : A.length ≤ 1000) :
    Calls Tryz.prog 33 #[.int .i64 x, .int .i64 y, .pointer (some ⟨bx, 0, none⟩)] w fun e w' => e = .returned (.int .i64 (cmpY A x y)) ∧ Below w.heap.size w w' := by
  have hAx := Lib.hid (fun V (h : Below w.heap.size w V) => age_any v A x V (hv.below h) hl)
  have hAy := Lib.hid (fun V (h : Below w.heap.size w V) => age_any v A y V (hv.below h) hl)
  have hc : cmpY A x y = if Lib.compareInt (ageL A x) (ageL A y) ≠ 0 then Lib.compareInt (ageL A x) (ageL A y) else Lib.compareInt x y := rfl
  generalize ageL A x = ax at *
  generalize ageL A y = ay at *
  obtain ⟨c1, hc1⟩ : ∃ c1, Hid (Lib.compareInt ax ay = c1) := ⟨_, rfl⟩
  obtain ⟨c2, hc2⟩ : ∃ c2, Hid (Lib.compareInt x y = c2) := ⟨_, rfl⟩
  rw [hc1.out, hc2.out] at hc
  rw [hc]
  have hC1 := Lib.hid (fun V => compare64_any ax ay V)
  have hC2 := Lib.hid (fun V => compareI_any x y V)
  simp only [hc1.out] at hC1
  simp only [hc2.out] at hC2
  obtain ⟨R, hR⟩ : ∃ R, Hid ((if c1 ≠ 0 then c1 else c2) = R) := ⟨_, rfl⟩
  have hO := Lib.hid (fun g c V h1 h2 => or2_any c1 c2 g c V h1 h2)
  simp only [hR.out] at hO
  rw [hR.out]
  clear hc hv hc1 hc2 hR
  go_enter Tryz.func33, Tryz.ntmps33
  go_wp2_with fail
  have hS := Lib.hid (show (fun V : World => Below w.heap.size w V) _ from Below.drew1 w)
  refine hl_begin (fun V : World => Below w.heap.size w V) [(0, true), (1, true), (3, true), (4, true), (7, true), (8, true), (2, false), (5, false), (6, false), (9, false), (10, false), (11, false), (12, true)] (by kernel_rfl) (by kernel_rfl) (by kernel_rfl) rfl (fun _ _ _ _ _ h => h) hS.out ?_
  change HL _ _ _ _ _ _ (World.drew _)
  generalize World.drew _ = wd at *
  refine hl_take ?v1 rfl (by kernel_rfl) ?y1 ?z1
  case y1 => intro W hW; have z := ((show Below w.heap.size w W from hW).cell (p := ⟨bx, 0, none⟩) hbx).trans h0; replace hW := Lib.hid hW; go_simp; try rfl
  case z1 =>
  simp only [Act.put, List.setIfInBounds_toArray, List.set_cons_succ, List.set_cons_zero, List.getElem_toArray, List.getElem_cons_zero, List.getElem_cons_succ]
  refine hl_take ?v2 rfl (by kernel_rfl) ?y2 ?z2
  case y2 => intro W hW; skip; replace hW := Lib.hid hW; go_simp; try rfl
  case z2 =>
  simp only [Act.put, List.setIfInBounds_toArray, List.set_cons_succ, List.set_cons_zero, List.getElem_toArray, List.getElem_cons_zero, List.getElem_cons_succ]
  refine hl_take ?v3 rfl (by kernel_rfl) ?y3 ?z3
  case y3 => intro W hW; have z := ((show Below w.heap.size w W from hW).cell (p := ⟨bx, 0, none⟩) hbx).trans h0; replace hW := Lib.hid hW; go_simp; try rfl
  case z3 =>
  simp only [Act.put, List.setIfInBounds_toArray, List.set_cons_succ, List.set_cons_zero, List.getElem_toArray, List.getElem_cons_zero, List.getElem_cons_succ]
  refine hl_take ?v4 rfl (by kernel_rfl) ?y4 ?z4
  case y4 => intro W hW; skip; replace hW := Lib.hid hW; go_simp; try rfl
  case z4 =>
  simp only [Act.put, List.setIfInBounds_toArray, List.set_cons_succ, List.set_cons_zero, List.getElem_toArray, List.getElem_cons_zero, List.getElem_cons_succ]
  refine hl_take ?v5 rfl (by kernel_rfl) ?y5 ?z5
  case y5 => intro W hW; skip; replace hW := Lib.hid hW; go_simp; try rfl
  case z5 =>
  simp only [Act.put, List.setIfInBounds_toArray, List.set_cons_succ, List.set_cons_zero, List.getElem_toArray, List.getElem_cons_zero, List.getElem_cons_succ]
  refine hl_take ?v6 rfl (by kernel_rfl) ?y6 ?z6
  case y6 => intro W hW; skip; replace hW := Lib.hid hW; go_simp; try rfl
  case z6 =>
  simp only [Act.put, List.setIfInBounds_toArray, List.set_cons_succ, List.set_cons_zero, List.getElem_toArray, List.getElem_cons_zero, List.getElem_cons_succ]
  refine hl_one rfl (by kernel_rfl) (fun K hK => ?_)
  go_simp
  refine (hAx.out wd hS.out).mono ?_
  rintro e V2 ⟨rfl, q⟩
  replace hS := Lib.hid (show Below w.heap.size w V2 from belT hS.out q)
  clear q
  refine hK.out _ _ hS.out ?_
  clear hK K
  try simp only [Act.put, List.setIfInBounds_toArray, List.set_cons_succ, List.set_cons_zero, List.getElem_toArray, List.getElem_cons_zero, List.getElem_cons_succ]
  refine hl_one rfl (by kernel_rfl) (fun K hK => ?_)
  go_simp
  refine (hAy.out V2 hS.out).mono ?_
  rintro e V3 ⟨rfl, q⟩
  replace hS := Lib.hid (show Below w.heap.size w V3 from belT hS.out q)
  clear q
  refine hK.out _ _ hS.out ?_
  clear hK K
  try simp only [Act.put, List.setIfInBounds_toArray, List.set_cons_succ, List.set_cons_zero, List.getElem_toArray, List.getElem_cons_zero, List.getElem_cons_succ]
  refine hl_one rfl (by kernel_rfl) (fun K hK => ?_)
  go_simp
  refine (hC1.out V3).mono ?_
  rintro e V4 ⟨rfl, rfl⟩
  refine hK.out _ _ hS.out ?_
  clear hK K
  try simp only [Act.put, List.setIfInBounds_toArray, List.set_cons_succ, List.set_cons_zero, List.getElem_toArray, List.getElem_cons_zero, List.getElem_cons_succ]
  refine hl_one rfl (by kernel_rfl) (fun K hK => ?_)
  go_simp
  refine (hC2.out V4).mono ?_
  rintro e V5 ⟨rfl, rfl⟩
  refine hK.out _ _ hS.out ?_
  clear hK K
  try simp only [Act.put, List.setIfInBounds_toArray, List.set_cons_succ, List.set_cons_zero, List.getElem_toArray, List.getElem_cons_zero, List.getElem_cons_succ]
  refine hl_one rfl (by kernel_rfl) (fun K hK => ?_)
  go_simp
  have hB := Lib.hid ((Sep.start V5).alloc #[.int .i64 c1, .int .i64 c2] 3)
  replace hS := Lib.hid (show Below w.heap.size w _ from belT hS.out hB.out.tail.gold)
  refine hK.out _ _ hS.out ?_
  clear hK K
  try simp only [Act.put, List.setIfInBounds_toArray, List.set_cons_succ, List.set_cons_zero, List.getElem_toArray, List.getElem_cons_zero, List.getElem_cons_succ]
  refine hl_one rfl (by kernel_rfl) (fun K hK => ?_)
  go_simp
  refine (hO.out _ _ _ hB.out.b2.2.1 hB.out.b2.2.2.1).mono ?_
  rintro e V6 ⟨rfl, rfl⟩
  refine hK.out _ _ hS.out ?_
  clear hK K
  try simp only [Act.put, List.setIfInBounds_toArray, List.set_cons_succ, List.set_cons_zero, List.getElem_toArray, List.getElem_cons_zero, List.getElem_cons_succ]
  refine hl_take ?v7 rfl (by kernel_rfl) ?y7 ?z7
  case y7 => intro W hW; skip; replace hW := Lib.hid hW; go_simp; try rfl
  case z7 =>
  simp only [Act.put, List.setIfInBounds_toArray, List.set_cons_succ, List.set_cons_zero, List.getElem_toArray, List.getElem_cons_zero, List.getElem_cons_succ]
  refine hl_done ?_
  go_wp2_with fail
  go_ret
  exact ⟨rfl, hS.out⟩
/-- The greatest of some. -/
def maxL (c : Int → Int → Int) (xs : List Int) (m : Int) : Int := xs.foldl (fun m x => if c x m > 0 then x else m) m
theorem eg_yng : ∀ args w, (callFunc 33 args).run Tryz.prog w = .ok (.enter 33 args) w := enters_of Tryz.func33 (by kernel_rfl) rfl
set_option maxHeartbeats 4000000 in
theorem maxFunc_any (u : Value) (x0 : Int) (xs : List Int) (g : Nat) (lb : Array Value) (c : Int → Int → Int) (w : World) (hu : RI w u (x0 :: xs)) (hl : xs.length ≤ 1000)
    (hp : ∀ W x y, Below w.heap.size w W → Calls Tryz.prog g (#[.int .i64 x, .int .i64 y] ++ lb) W fun e w' => e = .returned (.int .i64 (c x y)) ∧ Below W.heap.size W w')
    (eg : ∀ args w, (callFunc g args).run Tryz.prog w = .ok (.enter g args) w) :
    Calls Tryz.prog 32 #[u, .func (.func g) #[] lb] w fun e w' => e = .returned (.int .i64 (maxL c xs x0)) ∧ Below w.heap.size w w' := by
  obtain ⟨a, cp, rfl, hr⟩ := hu
  obtain ⟨b, off, rfl, hb, hz⟩ := hr (by simp)
  have HP := Lib.hid hp
  obtain ⟨n, hn⟩ : ∃ n, Hid ((x0 :: xs).length = n) := ⟨_, rfl⟩
  have hn0 : 0 < n := by rw [← hn.out]; simp
  have hn1 : n ≤ 1001 := by rw [← hn.out]; simp; omega
  rw [hn.out] at hz ⊢
  have z0 := hz 0 hn0
  rw [List.getD_cons_zero, Nat.add_zero] at z0
  replace hz := Lib.hid hz
  have hstep := Lib.hid (fun (k : Nat) (h0 : 0 < k) (h : k < n) => show maxL c (xs.take k) x0 = if c ((x0 :: xs).getD k 0) (maxL c (xs.take (k - 1)) x0) > 0 then (x0 :: xs).getD k 0 else maxL c (xs.take (k - 1)) x0 by
    obtain ⟨j, rfl⟩ : ∃ j, k = j + 1 := ⟨k - 1, by omega⟩
    have hj : j < xs.length := by rw [← hn.out] at h; simp at h; omega
    have e : (x0 :: xs).getD (j + 1) 0 = xs[j] := by simp [List.getD, hj]
    rw [e, Nat.add_sub_cancel]
    unfold maxL
    rw [List.take_succ_eq_append_getElem hj, List.foldl_append]
    rfl)
  have hend := Lib.hid (show maxL c (xs.take (n - 1)) x0 = maxL c xs x0 by
    rw [← hn.out, List.length_cons, Nat.add_sub_cancel, List.take_length])
  have i0 : ¬ (n : Int) < 1 := by omega
  clear hp hr
  go_enter Tryz.func32, Tryz.ntmps32
  go_wp2_with fail
  go_loopg [5, 6] (n - 1) (fun gm s5 s6 W => ∃ (k : Nat), 0 < k ∧ k ≤ n ∧ gm = n - k ∧ s5 = .int .i64 (maxL c (xs.take (k - 1)) x0) ∧ s6 = .int .i64 k ∧ Hid (Below w.heap.size w W))
  case atStart => exact ⟨1, by omega, by omega, rfl, rfl, rfl, Lib.hid (Below.refl _ _)⟩
  case round =>
    obtain ⟨k, hk0, hk, hgm, rfl, rfl, hB⟩ := hrel
    by_cases hlt : k < n
    · have hszr := hB.out.size
      have zk := (hB.out.cell (p := ⟨b, off + k, none⟩) hb).trans (hz.out k hlt)
      have hs := hstep.out k hk0 hlt
      generalize (x0 :: xs).getD k 0 = x at *
      have hq := Lib.hid (HP.out wr x (maxL c (xs.take (k - 1)) x0) hB.out)
      generalize maxL c (xs.take (k - 1)) x0 = m at *
      have i1 : (0 : Int) ≤ (k : Int) := by omega
      have i2 : (k : Int) < (n : Int) := by omega
      go_wp2_with fail
      refine hq.out.mono ?_
      rintro e w1 ⟨rfl, q⟩
      replace hB := Lib.hid (belT hB.out q)
      have hsz := Lib.hid hszr
      have z2 := (q.cell (p := ⟨b, off + k, none⟩) (Nat.lt_of_lt_of_le hb hsz.out)).trans zk
      clear hq q zk
      by_cases hc : c x m > 0
      · rw [if_pos hc] at hs
        have hc2 : (0 : Int) < c x m := hc
        generalize c x m = cv at *
        go_wp2_with fail
        go_roundg (n - (k + 1))
        case measure => omega
        case rel => exact ⟨k + 1, by omega, by omega, rfl, by rw [Nat.add_sub_cancel, hs], by go_num, hB⟩
      · rw [if_neg hc] at hs
        have hc2 : ¬ (0 : Int) < c x m := hc
        generalize c x m = cv at *
        go_wp2_with fail
        go_roundg (n - (k + 1))
        case measure => omega
        case rel => exact ⟨k + 1, by omega, by omega, rfl, by rw [Nat.add_sub_cancel, hs], by go_num, hB⟩
    · rw [show k - 1 = n - 1 by omega, hend.out]
      have i3 : ¬ (k : Int) < (n : Int) := by omega
      go_wp2_with fail
      go_ret
      exact ⟨rfl, hB.out⟩
/-- Who is chosen of some. -/
def gtL (c : Int → Int → Int) : List Int → Int
  | [] => 0
  | x :: xs => maxL c xs x
set_option maxHeartbeats 4000000 in
theorem greatest_any (u : Value) (xs : List Int) (g : Nat) (lb : Array Value) (c : Int → Int → Int) (w : World) (hu : RI w u xs) (hl : xs.length ≤ 1000)
    (hp : ∀ W x y, Below w.heap.size w W → Calls Tryz.prog g (#[.int .i64 x, .int .i64 y] ++ lb) W fun e w' => e = .returned (.int .i64 (c x y)) ∧ Below W.heap.size W w')
    (eg : ∀ args w, (callFunc g args).run Tryz.prog w = .ok (.enter g args) w) :
    Calls Tryz.prog 18 #[u, .func (.func g) #[] lb] w fun e w' => e = .returned (.tuple #[.int .i64 (gtL c xs), .bool (decide (0 < xs.length))]) ∧ Below w.heap.size w w' := by
  cases xs with
  | nil =>
    obtain ⟨a, cp, rfl, _⟩ := hu
    clear hp
    simp only [List.length_nil, gtL, Nat.lt_irrefl, decide_false]
    go_enter Tryz.func18, Tryz.ntmps18
    go_wp2_with fail
    refine bodyPost_ret (v := .tuple #[.int .i64 0, .bool false]) (by simp [results, Tryz.results18, go_sem, *]) rfl ⟨rfl, Below.refl _ _⟩
  | cons x xs =>
    have hM := Lib.hid (maxFunc_any u x xs g lb c w hu (by simp at hl; omega) hp eg)
    obtain ⟨a, cp, rfl, _⟩ := hu
    have hpos : decide (0 < (x :: xs).length) = true := by simp
    have hlen : (((x :: xs).length : Nat) : Int) = (xs.length : Int) + 1 := by simp
    have h0 : ¬ ((xs.length : Int) + 1 = 0) := by omega
    rw [hpos]
    simp only [gtL]
    clear hp hpos
    generalize maxL c xs x = m at *
    obtain ⟨n, hn⟩ : ∃ n, Hid ((x :: xs).length = n) := ⟨_, rfl⟩
    rw [hn.out] at hM hlen ⊢
    have h1 : ¬ (n : Int) = 0 := by omega
    clear hlen h0
    go_enter Tryz.func18, Tryz.ntmps18
    go_wp2_with fail
    refine hM.out.mono ?_
    rintro e w1 ⟨rfl, q⟩
    replace q := Lib.hid q
    clear hM
    go_wp2_with fail
    refine bodyPost_ret (v := .tuple #[.int .i64 m, .bool true]) (by simp [results, Tryz.results18, go_sem, *]) rfl ⟨rfl, q.out⟩
theorem mkYounger_any (a : Option Addr) (n c : Nat) (w : World) : Calls Tryz.prog 19 #[.slice a n c] w fun e w' => e = .returned (.func (.func 33) #[] #[.pointer (some ⟨w.heap.size, 0, none⟩)]) ∧ w' = w.alloc (.cells #[.slice a n c] 23) := by
  go_enter Tryz.func19, Tryz.ntmps19
  go_wp2_with fail
  go_ret
  exact ⟨rfl, rfl⟩
def chL (A : List Ag) (xs : List Int) : Int := gtL (cmpY A) xs
set_option maxHeartbeats 4000000 in
theorem choose_any (u v : Value) (xs : List Int) (A : List Ag) (w : World) (hu : RI w u xs) (hl : xs.length ≤ 1000) (hv : RL w v 2 A.length (A.flatMap Ag.cells)) (hA : A.length ≤ 1000) :
    Calls Tryz.prog 6 #[u, v] w fun e w' => e = .returned (.tuple #[.int .i64 (chL A xs), .bool (decide (0 < xs.length))]) ∧ Below w.heap.size w w' := by
  obtain ⟨va, vc, rfl⟩ : ∃ va vc, v = .slice va A.length vc := by
    obtain ⟨_, va, vc, hv', _⟩ := hv
    exact ⟨va, vc, hv'⟩
  have hB := Lib.hid ((Sep.start w).alloc #[.slice va A.length vc] 23)
  have hbel := hB.out.tail.gold
  have hG := Lib.hid (greatest_any u xs 33 #[.pointer (some ⟨w.heap.size, 0, none⟩)] (cmpY A) (w.alloc (.cells #[.slice va A.length vc] 23)) (hu.below hbel) hl (fun W x y h => younger_any w.heap.size (.slice va A.length vc) A x y W ((h.cell (p := ⟨w.heap.size, 0, none⟩) hB.out.b1.1).trans hB.out.b1.2.1) (Nat.lt_of_lt_of_le hB.out.b1.1 h.size) ((hv.below hbel).below h) hA) eg_yng)
  rw [show gtL (cmpY A) xs = chL A xs from rfl] at hG
  clear hv hu hbel
  generalize chL A xs = m at *
  generalize decide (0 < xs.length) = bb at *
  go_enter Tryz.func6, Tryz.ntmps6
  go_wp2_with fail
  refine (mkYounger_any _ _ _ _).mono ?_
  rintro e w1 ⟨rfl, rfl⟩
  go_wp2_with fail
  refine hG.out.mono ?_
  rintro e w2 ⟨rfl, q⟩
  replace hB := Lib.hid (hB.out.below q)
  clear q hG
  go_wp2_with fail
  refine bodyPost_ret (v := .tuple #[.int .i64 m, .bool bb]) (by simp [results, Tryz.results6, go_sem, *]) rfl ⟨rfl, hB.out.tail.gold⟩
end Go.Proofs.YthbamhfnemdebaaGreat
namespace Go.Proofs.YthbamhfnemdebaaGreat
open Go.RowKit
theorem maxL_mem (c : Int → Int → Int) : ∀ (xs : List Int) (m : Int), maxL c xs m = m ∨ maxL c xs m ∈ xs
  | [], _ => .inl rfl
  | x :: xs, m => by
    have e : maxL c (x :: xs) m = maxL c xs (if c x m > 0 then x else m) := rfl
    rw [e]
    rcases maxL_mem c xs (if c x m > 0 then x else m) with h | h
    · rw [h]
      split
      · exact .inr (List.mem_cons_self ..)
      · exact .inl rfl
    · exact .inr (List.mem_cons_of_mem _ h)
theorem gtL_mem (c : Int → Int → Int) (xs : List Int) (h : 0 < xs.length) : gtL c xs ∈ xs := by
  cases xs with
  | nil => simp at h
  | cons x xs =>
    rcases maxL_mem c xs x with h | h
    · show maxL c xs x ∈ _
      rw [h]; exact List.mem_cons_self ..
    · exact List.mem_cons_of_mem _ h
/-- The victim of what the edges' first cycle is. -/
def vc (A : List Ag) (L : List Ed) : Int := chL A (cyc L).1
theorem vc_mem (A : List Ag) (L : List Ed) (h : (cyc L).2 = true) : vc A L ∈ (cyc L).1 := by
  rw [cyc_ok] at h
  exact gtL_mem _ _ (by simpa using h)
theorem cyc_has (L : List Ed) (c : Int) (h : c ∈ (cyc L).1) : ∃ t, ⟨c, t⟩ ∈ L := by
  obtain ⟨i, hi, he⟩ := List.mem_iff_getElem.1 h
  have h2 := cyc_edge L i hi
  have e : (cyc L).1.getD i 0 = c := by simp [List.getD, hi, he]
  rw [e] at h2
  exact ⟨_, h2⟩
theorem keepL_lt (A : List Ag) (L : List Ed) (h : (cyc L).2 = true) : (keepL (onE (vc A L)) L).length < L.length := by
  obtain ⟨t, ht⟩ := cyc_has L _ (vc_mem A L h)
  unfold keepL
  exact List.length_filter_lt_length_iff_exists.2 ⟨_, ht, by simp [onE]⟩
def vicF (A : List Ag) : Nat → List Ed → List Int
  | 0, _ => []
  | f + 1, L => if (cyc L).2 then vc A L :: vicF A f (keepL (onE (vc A L)) L) else []
theorem vicF_enough (A : List Ag) : ∀ (f g : Nat) (L : List Ed), L.length < f → L.length < g → vicF A f L = vicF A g L
  | 0, _, _, h, _ => by omega
  | _ + 1, 0, _, _, h => by omega
  | f + 1, g + 1, L, h1, h2 => by
    unfold vicF
    by_cases hc : (cyc L).2 = true
    · have := keepL_lt A L hc
      rw [if_pos hc, if_pos hc, vicF_enough A f g _ (by omega) (by omega)]
    · rw [if_neg hc, if_neg hc]
/-- What Victims tells. -/
def vic (A : List Ag) (L : List Ed) : List Int := vicF A (L.length + 1) L
theorem vic_no (A : List Ag) (L : List Ed) (h : (cyc L).2 = false) : vic A L = [] := by
  unfold vic vicF
  rw [h]
  rfl
theorem vic_yes (A : List Ag) (L : List Ed) (h : (cyc L).2 = true) : vic A L = vc A L :: vic A (keepL (onE (vc A L)) L) := by
  have hl := keepL_lt A L h
  unfold vic
  rw [show vicF A (L.length + 1) L = vc A L :: vicF A L.length (keepL (onE (vc A L)) L) by conv => lhs; unfold vicF; rw [if_pos h]]
  rw [vicF_enough A L.length _ _ hl (Nat.lt_succ_self _)]
theorem cycL_len (L : List Ed) : (cyc L).1.length ≤ L.length + 1 := cycG_len L _
set_option maxHeartbeats 4000000 in
set_option maxRecDepth 100000 in
theorem victims_any (u v : Value) (L : List Ed) (A : List Ag) (w : World) (hu : RL w u 2 L.length (L.flatMap Ed.cells)) (hl : L.length ≤ 900) (hv : RL w v 2 A.length (A.flatMap Ag.cells)) (hA : A.length ≤ 1000) :
    Calls Tryz.prog 12 #[u, v] w fun e w' => ∃ a c, e = .returned (.slice a (vic A L).length c) ∧ Sep w' [vec 3 1 (.slice a (vic A L).length c) (vic A L).length ((vic A L).map (Value.int .i64)), old w] := by
  have HV := Lib.hid hv
  have HU := Lib.hid hu
  obtain ⟨i0, hi0, hz0, hz1, hz2⟩ := info_parts info_int
  obtain ⟨V, hVic⟩ : ∃ V, Hid (vic A L = V) := ⟨_, rfl⟩
  have h1c : Hid (∀ y, ∀ u ∈ ([.int .i64 y] : List Value), u.oneCell' = true) := Lib.hid (by simp [Value.oneCell'])
  have hV0 := Lib.hid (((Sep.gprop (p := True)).2 ⟨trivial, Sep.start w⟩).vec_nil 3 1)
  rw [hVic.out]
  clear hu hv
  go_enter Tryz.func12, Tryz.ntmps12
  go_wp2_with fail
  go_loopg [0, 5] L.length (fun gm s0 s5 W => ∃ (sv : Value) (L2 : List Ed) (o : List Int) (ao : Option Addr) (co : Nat) (R : Res), sv = s0 ∧ gm = L2.length ∧ s5 = .slice ao o.length co ∧ Hid (V = o ++ vic A L2) ∧ o.length + L2.length ≤ L.length ∧ Hid (∀ W rs, Sep W (R :: old w :: rs) → RL W sv 2 L2.length (L2.flatMap Ed.cells)) ∧ Hid (Sep W [vec 3 1 (.slice ao o.length co) o.length (o.map (Value.int .i64)), R, old w]))
  case atStart => exact ⟨u, L, [], none, 0, prop True, rfl, rfl, rfl, Lib.hid (by rw [← hVic.out]; rfl), by simp, Lib.hid (fun W rs h => HU.out.below h.tail.gold), hV0⟩
  case round =>
    clear hV0
    obtain ⟨sv, L2, o, ao, co, R, rfl, hgm, rfl, hE, hol, hR, hV⟩ := hrel
    have HC := Lib.hid (cycle_any sv L2 wr (hR.out _ _ hV.out.to2.to2) (by omega))
    cases hc : (cyc L2).2 with
    | false =>
      rw [hc] at HC
      rw [vic_no A L2 hc, List.append_nil] at hE
      go_wp2_with fail
      refine HC.out.mono ?_
      rintro e w2 ⟨ca, cp, rfl, q⟩
      replace hV := Lib.hid (q.graft hV.out)
      clear q HC
      go_wp2_with fail
      go_ret
      rw [hE.out]
      exact ⟨ao, co, rfl, hV.out.tail.drop1⟩
    | true =>
      have hvy := Lib.hid (vic_yes A L2 hc)
      have hlt := keepL_lt A L2 hc
      have hok := cyc_ok L2
      rw [hc] at HC hok
      have hcl := cycL_len L2
      have hvc : vc A L2 = chL A (cyc L2).1 := rfl
      rw [hvy.out] at hE
      rw [hvc] at hlt hE
      clear hc hvy hvc
      generalize (cyc L2).1 = xs at *
      have HW := Lib.hid (fun W h => without_any sv L2 (chL A xs) W h (by omega))
      have HCh := Lib.hid (fun u W h1 h2 => choose_any u v xs A W h1 (by omega) h2 hA)
      rw [← hok] at HCh
      generalize chL A xs = c at *
      obtain ⟨nx, hnx⟩ : ∃ nx, Hid (xs.length = nx) := ⟨_, rfl⟩
      rw [hnx.out] at HC
      clear hok hcl
      go_wp2_with fail
      refine HC.out.mono ?_
      rintro e w2 ⟨ca, cp, rfl, q⟩
      replace hV := Lib.hid (q.graft hV.out)
      clear q HC
      go_wp2_with fail
      refine (HCh.out _ _ hV.out.vec_ri (HV.out.below (hV.out.bring 3 rfl).gold)).mono ?_
      rintro e w3 ⟨rfl, q⟩
      replace hV := Lib.hid (hV.out.below q).tail
      clear q HCh
      go_wp2_with (at_builtin; refine wpList_append_sep (hV.out.allocG _) rfl _ _ 24 rfl i0 _ 8 Tryz.underlying24 hi0 hz0 hz1 hz2 rfl (by decide) rfl 1 [.int .i64 c] (SrcA.one _ _ _ _) (h1c.out _) (by simp only [maxLen]; omega) (by omega) ?_; intro oa' oc' w4 q2; replace q2 := Lib.hid q2)
      refine (HW.out _ (hR.out _ _ q2.out.to2.to2)).mono ?_
      rintro e w5 ⟨wa, wc, rfl, q⟩
      replace hV := Lib.hid (q.graft q2.out)
      clear q q2 HW
      go_wp2_with fail
      go_roundg (keepL (onE c) L2).length
      case measure => omega
      case rel => exact ⟨_, keepL (onE c) L2, o ++ [c], oa', oc', vec 36 2 (.slice wa (keepL (onE c) L2).length wc) (keepL (onE c) L2).length ((keepL (onE c) L2).flatMap Ed.cells), rfl, rfl, by simp, Lib.hid (by rw [hE.out]; simp), by simp; omega, Lib.hid (fun W rs h => h.vec_rl), Lib.hid (by have h := hV.out.drop2.to1; simpa using h)⟩
end Go.Proofs.YthbamhfnemdebaaGreat
namespace Go.Proofs.YthbamhfnemdebaaGreat
open Go.RowKit
theorem same_true (u v : Value) (xs : List Int) (w : World) (hn : xs.length ≤ 1000) (hu : RI w u xs) (hv : RI w v xs) :
   Calls Tryz.prog 11 #[u, v] w fun e w' => e = .returned (.bool true) ∧ ∃ m, w' = w.drewN m := by
  obtain ⟨a, c, rfl, hr⟩ := hu
  obtain ⟨a', c', rfl, hr'⟩ := hv
  have HR := Lib.hid hr
  have HR' := Lib.hid hr'
  clear hr hr'
  generalize hl : xs.length = n at *
  have hl := Lib.hid hl
  go_enter Tryz.func11, Tryz.ntmps11
  go_wp2
  go_loopw [5] (fun i w1 => ∃ k : Nat, k ≤ n ∧ i = .int .i64 k ∧ ∃ m, w1 = w.drewN m) (fun i _ => n - (intOf i).toNat)
  case atStart => exact ⟨0, Nat.zero_le _, rfl, 0, rfl⟩
  case round =>
    obtain ⟨k, hk, rfl, m, rfl⟩ := hrel
    by_cases hlt : k < n
    · obtain ⟨b, off, rfl, _, hc⟩ := HR.out (by omega)
      obtain ⟨b', off', rfl, _, hc'⟩ := HR'.out (by omega)
      have h1 := hc k hlt
      have h2 := hc' k hlt
      clear hc hc' HR HR'
      generalize xs.getD k 0 = x at *
      go_wp2_with fail
      go_quiet (fail)
      go_wp2_with fail
      go_roundw
      case rel => exact ⟨k+1, by omega, by go_num, _, rfl⟩
      case measure => simp [intOf]; omega
    · go_wp2
      go_ret
      exact ⟨rfl, _, rfl⟩
end Go.Proofs.YthbamhfnemdebaaGreat
namespace Go.Proofs.YthbamhfnemdebaaGreat
open Go.RowKit
abbrev exL : List Ed := [⟨1, 2⟩, ⟨2, 1⟩]
abbrev exA : List Ag := [⟨1, 5⟩, ⟨2, 3⟩]
theorem ex_cyc : cyc exL = ([1, 2], true) := by
  unfold cyc nxL
  rw [sdE_self exL (by simp [ltE])]
  rfl
theorem cyc_nil : cyc [] = ([], false) := by
  unfold cyc nxL
  rw [sdE_self [] (by simp)]
  rfl
theorem ex_vic : vic exA exL = [1] := by
  rw [vic_yes exA exL (by rw [ex_cyc])]
  have h : vc exA exL = 1 := by
    unfold vc
    rw [ex_cyc]
    rfl
  rw [h, show keepL (onE 1) exL = [] from rfl, vic_no exA [] (by rw [cyc_nil])]
theorem ed_rl {w : World} {g n : Nat} {cs : Array Value} {rs : List Res} (L : List Ed) (h : Sep w (blk g 36 cs :: rs)) (hc : cs.toList = L.flatMap Ed.cells) (hn : L.length = n) (hm : n ≤ 1000) : RL w (.slice (some ⟨g, 0, none⟩) n n) 2 L.length (L.flatMap Ed.cells) := by
  have hl : (L.flatMap Ed.cells).length = n * 2 := by rw [flat_len Ed.cells 2 ed_len, hn]
  have hs : cs.size = n * 2 := by rw [← Array.length_toList, hc, hl]
  have := (h.blk_vec (size := 2) (n := n) (c := n) (xs := L.flatMap Ed.cells) hl (Nat.le_refl _) (by simp only [maxLen]; omega) hs (by rw [hc, ← hl, List.take_length])).vec_rl
  rw [hn]
  exact this
theorem ag_rl {w : World} {g n : Nat} {cs : Array Value} {rs : List Res} (L : List Ag) (h : Sep w (blk g 47 cs :: rs)) (hc : cs.toList = L.flatMap Ag.cells) (hn : L.length = n) (hm : n ≤ 1000) : RL w (.slice (some ⟨g, 0, none⟩) n n) 2 L.length (L.flatMap Ag.cells) := by
  have hl : (L.flatMap Ag.cells).length = n * 2 := by rw [flat_len Ag.cells 2 ag_len, hn]
  have hs : cs.size = n * 2 := by rw [← Array.length_toList, hc, hl]
  have := (h.blk_vec (size := 2) (n := n) (c := n) (xs := L.flatMap Ag.cells) hl (Nat.le_refl _) (by simp only [maxLen]; omega) hs (by rw [hc, ← hl, List.take_length])).vec_rl
  rw [hn]
  exact this
theorem int_ri {w : World} {g n : Nat} {t : TypeId} {cs : Array Value} {rs : List Res} (xs : List Int) (h : Sep w (blk g t cs :: rs)) (hc : cs.toList = xs.map (Value.int .i64)) (hn : xs.length = n) (hm : n ≤ 1000) : RI w (.slice (some ⟨g, 0, none⟩) n n) xs := by
  have hl : (xs.map (Value.int .i64)).length = n * 1 := by rw [List.length_map, hn, Nat.mul_one]
  have hs : cs.size = n * 1 := by rw [← Array.length_toList, hc, hl]
  exact (h.blk_vec (size := 1) (n := n) (c := n) (xs := xs.map (Value.int .i64)) hl (Nat.le_refl _) (by simp only [maxLen]; omega) hs (by rw [hc, ← hl, List.take_length])).vec_ri
set_option maxHeartbeats 4000000 in
set_option maxRecDepth 100000 in
theorem lives_any (w : World) : Calls Tryz.prog 4 #[] w fun e w' => e = .returned (.bool true) ∧ Below w.heap.size w w' := by
  have hS := Lib.hid (((Sep.start w).alloc #[.int .i64 1, .int .i64 2, .int .i64 2, .int .i64 1] 36).alloc #[.int .i64 1, .int .i64 5, .int .i64 2, .int .i64 3] 47)
  have HV := Lib.hid (victims_any _ _ exL exA _ (ed_rl exL hS.out.to1 rfl rfl (by decide)) (by decide) (ag_rl exA hS.out rfl rfl (by decide)) (by decide))
  rw [ex_vic] at HV
  go_enter Tryz.func4, Tryz.ntmps4
  go_wp2_with fail
  simp only [World.size_alloc] at HV hS
  refine HV.out.mono ?_
  rintro e w1 ⟨a, c, rfl, q⟩
  simp only [List.length_cons, List.length_nil] at q ⊢
  replace hS := Lib.hid ((q.graft hS.out).alloc #[.int .i64 1] 3)
  clear q HV
  go_wp2_with fail
  refine (same_true _ _ [1] _ (by decide) hS.out.to1.vec_ri (int_ri [1] hS.out rfl rfl (by decide))).mono ?_
  rintro e w2 ⟨rfl, m, rfl⟩
  replace hS := Lib.hid (hS.out.drewN m)
  go_wp2_with fail
  go_ret
  exact ⟨rfl, (hS.out.bring 4 rfl).gold⟩
end Go.Proofs.YthbamhfnemdebaaGreat
namespace Go.Proofs.YthbamhfnemdebaaGreat
open Go.RowKit
/-- Younger, or as old with no smaller number. -/
def yLe (A : List Ag) (x y : Int) : Prop := ageL A x < ageL A y ∨ ageL A x = ageL A y ∧ x ≤ y
theorem cmpY_gt (A : List Ag) (x y : Int) : cmpY A x y > 0 ↔ ¬ yLe A x y := by
  unfold cmpY yLe Lib.compareInt
  by_cases h1 : ageL A x < ageL A y
  · simp [h1]
  · by_cases h2 : ageL A y < ageL A x
    · simp [h1, h2]
      omega
    · have h3 : ageL A x = ageL A y := by omega
      by_cases h4 : x < y
      · simp [h1, h2, h4]
        omega
      · by_cases h5 : y < x
        · simp [h1, h2, h4, h5]
        · simp [h1, h2, h4, h5]
          omega
end Go.Proofs.YthbamhfnemdebaaGreat
namespace Go.Proofs.YthbamhfnemdebaaGreat
open Go.RowKit
/-- All that is come to from those of a list, one after the other. -/
def RQl (N : Rw) (Q : List Int) : Bk := Q.foldl (fun bk a => nbr a (rowL N a) bk) []
theorem RQl_snoc (N : Rw) (Q : List Int) (a : Int) : RQl N (Q ++ [a]) = nbr a (rowL N a) (RQl N Q) := by
  unfold RQl
  rw [List.foldl_append]
  rfl
theorem Bfs.closed {N : Rw} {fr : Int} {bk r : Bk} {td : List Int} (h : Bfs N bk td r) : ∀ pr, pr ++ td = fr :: bk.map (·.1) → bk = RQl N pr → r = RQl N (fr :: r.map (·.1)) := by
  induction h with
  | nil =>
    intro pr h1 h2
    rw [List.append_nil] at h1
    rw [← h1]
    exact h2
  | @step bk a td r _ ih =>
    intro pr h1 h2
    refine ih (pr ++ [a]) ?_ (by rw [RQl_snoc, ← h2])
    obtain ⟨ex, he⟩ := nbr_keys a (rowL N a) bk
    rw [he, List.drop_left, List.map_append, ← List.cons_append, ← h1]
    simp
theorem wyN_closed (N : Rw) (fr : Int) : wyN N fr = RQl N (fr :: (wyN N fr).map (·.1)) := (wyN_steps N fr).closed [] rfl rfl
/-- Who is the first with an edge to one. -/
def fI (N : Rw) (Q : List Int) (x : Int) : Nat := Q.findIdx fun y => decide (x ∈ rowL N y)
theorem fI_snoc (N : Rw) (Q : List Int) (a x : Int) (h : fI N Q x < Q.length) : fI N (Q ++ [a]) x = fI N Q x := by
  unfold fI at *
  rw [List.findIdx_append, if_pos h]
theorem fI_lt {N : Rw} {Q : List Int} {x : Int} : fI N Q x < Q.length ↔ ∃ y ∈ Q, x ∈ rowL N y := by
  unfold fI
  rw [List.findIdx_lt_length]
  simp
theorem fI_new (N : Rw) (Q : List Int) (a x : Int) (h : ¬ fI N Q x < Q.length) (hx : x ∈ rowL N a) : fI N (Q ++ [a]) x = Q.length := by
  unfold fI at *
  rw [List.findIdx_append, if_neg h]
  simp [List.findIdx_cons, hx]
/-- Neighbours of one, in order. -/
theorem nbr_filter (a : Int) : ∀ (ts : List Int) (bk : Bk), ts.Nodup → nbr a ts bk = bk ++ (ts.filter fun t => !hasL bk t).map fun t => (t, a)
  | [], bk, _ => by simp [nbr]
  | t :: ts, bk, hn => by
    rw [List.nodup_cons] at hn
    have e : nbr a (t :: ts) bk = nbr a ts (if hasL bk t then bk else bk ++ [(t, a)]) := rfl
    rw [e, nbr_filter a ts _ hn.2]
    cases hh : hasL bk t with
    | true => simp [hh]
    | false =>
      rw [if_neg (by simp), List.filter_cons_of_pos (by simp [hh]), List.append_assoc]
      congr 1
      rw [List.map_cons, List.singleton_append]
      congr 2
      refine List.filter_congr fun x hx => ?_
      have hne : x ≠ t := fun e => hn.1 (e ▸ hx)
      have : hasL (bk ++ [(t, a)]) x = hasL bk x := by
        unfold hasL
        rw [List.any_append]
        simp [Ne.symm hne]
      rw [this]
/-- What is come to: whom, in which order, from whom. -/
structure InQ (N : Rw) (Q : List Int) : Prop where
  mem : ∀ x, x ∈ (RQl N Q).map (·.1) ↔ fI N Q x < Q.length
  par : ∀ p ∈ RQl N Q, Q[fI N Q p.1]? = some p.2
  pw : (RQl N Q).Pairwise fun p q => fI N Q p.1 < fI N Q q.1 ∨ fI N Q p.1 = fI N Q q.1 ∧ p.1 < q.1
theorem inQ (N : Rw) (hs : ∀ a, (rowL N a).Pairwise (· < ·)) (Q : List Int) : InQ N Q := by
  have key : ∀ R : List Int, InQ N R.reverse := by
    intro R
    induction R with
    | nil => exact ⟨by simp [RQl, fI], by simp [RQl], by simp [RQl]⟩
    | cons a R ih =>
      rw [List.reverse_cons]
      generalize R.reverse = Q at *
      obtain ⟨h1, h2, h3⟩ := ih
      have hnd : (rowL N a).Nodup := (hs a).imp fun h => by omega
      have e := nbr_filter a (rowL N a) (RQl N Q) hnd
      have hnew : ∀ t, (!hasL (RQl N Q) t) = true → ¬ fI N Q t < Q.length := by
        intro t ht hl
        rw [← h1, ← hasL_iff] at hl
        rw [hl] at ht
        cases ht
      have hold : ∀ p ∈ RQl N Q, fI N (Q ++ [a]) p.1 = fI N Q p.1 ∧ fI N Q p.1 < Q.length := by
        intro p hp
        have hl := (h1 p.1).1 (List.mem_map.2 ⟨p, hp, rfl⟩)
        exact ⟨fI_snoc N Q a p.1 hl, hl⟩
      refine ⟨fun x => ?_, fun p hp => ?_, ?_⟩
      · rw [RQl_snoc, nbr_mem, h1, fI_lt, fI_lt]
        constructor
        · rintro (⟨y, hy, hx⟩ | hx)
          · exact ⟨y, List.mem_append_left _ hy, hx⟩
          · exact ⟨a, by simp, hx⟩
        · rintro ⟨y, hy, hx⟩
          rcases List.mem_append.1 hy with hy | hy
          · exact .inl ⟨y, hy, hx⟩
          · simp only [List.mem_singleton] at hy
            subst hy
            exact .inr hx
      · rw [RQl_snoc, e] at hp
        rcases List.mem_append.1 hp with hp | hp
        · obtain ⟨h4, h5⟩ := hold p hp
          rw [h4, List.getElem?_append_left h5]
          exact h2 p hp
        · obtain ⟨t, ht, rfl⟩ := List.mem_map.1 hp
          rw [List.mem_filter] at ht
          simp only
          rw [fI_new N Q a t (hnew t ht.2) ht.1, List.getElem?_append_right (Nat.le_refl _)]
          simp
      · rw [RQl_snoc, e, List.pairwise_append]
        refine ⟨?_, ?_, fun p hp q hq => ?_⟩
        · refine List.Pairwise.imp_of_mem (fun {p q} hp hq h => ?_) h3
          rw [(hold p hp).1, (hold q hq).1]
          exact h
        · rw [List.pairwise_map]
          refine List.Pairwise.imp_of_mem (fun {p q} hp hq h => ?_) ((hs a).filter _)
          rw [List.mem_filter] at hp hq
          simp only
          rw [fI_new N Q a p (hnew p hp.2) hp.1, fI_new N Q a q (hnew q hq.2) hq.1]
          exact .inr ⟨rfl, h⟩
        · obtain ⟨t, ht, rfl⟩ := List.mem_map.1 hq
          rw [List.mem_filter] at ht
          obtain ⟨h4, h5⟩ := hold p hp
          simp only
          rw [h4, fI_new N Q a t (hnew t ht.2) ht.1]
          exact .inl h5
  have := key Q.reverse
  rwa [List.reverse_reverse] at this
end Go.Proofs.YthbamhfnemdebaaGreat
