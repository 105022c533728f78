/-
  Check, Pending, Complete. No condition beside events that can be read.
-/
import Derived.Test.YtechagciefhpbaaDoorHLaw
namespace Go.Proofs.YtechagciefhpbaaDoor
set_option linter.unusedSimpArgs false
set_option linter.unusedVariables false
set_option linter.unnecessarySimpa false
open Go.RowKit
theorem info_event : (Tryd.prog.info? 31).map (fun i => (i.zero, i.size, i.bytes)) = some (some (.agg #[.int .i64 0, .int .i64 0, .bool false, .int .i64 0, .int .i64 0, .int .i64 0, .int .i64 0, .int .i64 0, .int .i64 0]), 9, 72) := by kernel_rfl
set_option maxHeartbeats 1000000 in
theorem check_any (v : Value) (l : List Ev) (w : World) (hv : RL w v 9 l.length (ecells l)) (hl : l.length ≤ 1000) :
    Calls Tryd.prog 6 #[v] w fun r w' => r = .returned (.tuple #[.int .i64 (walkS l 0 []).2.1, .int .i64 (walkS l 0 []).2.2]) ∧ Below w.heap.size w w' := by
  have H := Lib.hid (walk_any v l w hv hl)
  clear hv
  obtain ⟨R, hR⟩ : ∃ R, walkS l 0 [] = R := ⟨_, rfl⟩
  rw [hR] at H ⊢
  clear hR
  go_enter Tryd.func6, Tryd.ntmps6
  go_wp2_with fail
  refine H.out.mono ?_
  rintro e w1 ⟨sa, sc, rfl, q⟩
  replace q := Lib.hid q
  go_wp2_with fail
  go_ret2
  exact ⟨rfl, q.out.tail.gold⟩
/-- The cells of a slice of spans. -/
theorem sp_cells {w : World} {a : Option Addr} {n c : Nat} {S : List Sp} (hv : RL w (.slice a n c) 10 n (scells S)) (hn : S.length = n) (h0 : 0 < n) : ∃ b off, a = some ⟨b, off, none⟩ ∧ b < w.heap.size ∧ ∀ k s, S[k]? = some s →
    w.cell? ⟨b, off + k * 10, none⟩ = some (.int .i64 s.call) ∧ w.cell? ⟨b, off + k * 10 + 1, none⟩ = some (.int .i64 s.thread) ∧ w.cell? ⟨b, off + k * 10 + 2, none⟩ = some (.int .i64 s.from_) ∧ w.cell? ⟨b, off + k * 10 + 3, none⟩ = some (.int .i64 s.to) ∧ w.cell? ⟨b, off + k * 10 + 4, none⟩ = some (.int .i64 s.act.kind) ∧
    w.cell? ⟨b, off + k * 10 + 5, none⟩ = some (.int .i64 s.act.txn) ∧ w.cell? ⟨b, off + k * 10 + 6, none⟩ = some (.int .i64 s.act.t) ∧ w.cell? ⟨b, off + k * 10 + 7, none⟩ = some (.int .i64 s.act.r) ∧ w.cell? ⟨b, off + k * 10 + 8, none⟩ = some (.int .i64 s.act.mode) ∧ w.cell? ⟨b, off + k * 10 + 9, none⟩ = some (.int .i64 s.act.code) := span_cells hv hn h0
def pendC (S : List Sp) : List Int := (S.filter opens).map (·.call)
theorem pend_step {S : List Sp} {k : Nat} {s : Sp} (h : S[k]? = some s) : pendC (S.take (k + 1)) = pendC (S.take k) ++ if opens s then [s.call] else [] := by
  obtain ⟨h1, h2⟩ := List.getElem?_eq_some_iff.1 h
  unfold pendC
  rw [List.take_succ_eq_append_getElem h1, h2, List.filter_append, List.map_append]
  cases ho : opens s <;> simp [ho]
theorem pend_len (S : List Sp) : (pendC S).length ≤ S.length := by unfold pendC; rw [List.length_map]; exact List.length_filter_le _ _
set_option maxHeartbeats 4000000 in
set_option maxRecDepth 100000 in
theorem pendings_any (v : Value) (l : List Ev) (w : World) (hv : RL w v 9 l.length (ecells l)) (hl : l.length ≤ 1000) :
    Calls Tryd.prog 9 #[v] w fun r w' => ∃ a c, r = .returned (.slice a (pendC (walkS l 0 []).1).length c) ∧ Sep w' [vec 3 1 (.slice a (pendC (walkS l 0 []).1).length c) (pendC (walkS l 0 []).1).length ((pendC (walkS l 0 []).1).map (Value.int .i64)), old w] := by
  have H := Lib.hid (spans_any v l w hv hl)
  have hSl := walkS_len l 0 []
  clear hv
  obtain ⟨S, hS0⟩ : ∃ S, (walkS l 0 []).1 = S := ⟨_, rfl⟩
  rw [hS0] at hSl
  simp only [hS0] at H
  rw [hS0]
  clear hS0
  obtain ⟨n, hnS⟩ : ∃ n, Hid (S.length = n) := ⟨_, rfl⟩
  have hn1 : n ≤ 1000 := by rw [← hnS.out]; simp at hSl; omega
  simp only [hnS.out] at H
  replace H := Lib.hid H.out
  obtain ⟨i0, hi0, hz0, hz1, hz2⟩ := info_parts info_int
  clear hSl hl
  go_enter Tryd.func9, Tryd.ntmps9
  go_wp2_with fail
  refine H.out.mono ?_
  rintro e w1 ⟨sa, sc, rfl, q⟩
  have hV0 := Lib.hid (q.vec_nil 3 1)
  clear q H
  go_wp2_with fail
  go_loopw [3, 9] (fun v x wr => ∃ (j : Nat) (oa : Option Addr) (oc : Nat) (m : Nat), j ≤ n ∧ m ≤ j ∧ v = .slice oa m oc ∧ x = .int .i64 j ∧ Hid ((pendC (S.take j)).length = m) ∧ Hid (Sep wr [vec 3 1 (.slice oa m oc) m ((pendC (S.take j)).map (Value.int .i64)), vec 45 10 (.slice sa n sc) n (scells S), old w])) (fun _ x _ => n - (intOf x).toNat)
  case atStart => exact ⟨0, none, 0, 0, Nat.zero_le _, Nat.le_refl _, rfl, rfl, rfl, hV0⟩
  case round =>
    clear hV0
    obtain ⟨j, oa, oc, m, hj, hm, rfl, rfl, hml, hV⟩ := hrel
    by_cases hlt : j < n
    · obtain ⟨s, hs⟩ : ∃ s, S[j]? = some s := ⟨S[j]'(by rw [hnS.out]; exact hlt), List.getElem?_eq_getElem _⟩
      obtain ⟨b, off, hab, hb, hz⟩ := sp_cells hV.out.to1.vec_rl hnS.out (by omega)
      subst hab
      obtain ⟨z0, z1, z2, z3, z4, z5, z6, z7, z8, z9⟩ := hz j s hs
      have hst := Lib.hid (pend_step hs)
      have i1 : (0 : Int) ≤ (j : Int) := by omega
      have i2 : (j : Int) < (n : Int) := by omega
      have hP := Lib.hid (fun W => pending_any s W)
      replace hs := Lib.hid hs
      obtain ⟨op, hop⟩ : ∃ op, opens s = op := ⟨_, rfl⟩
      rw [hop] at hP hst
      clear hz
      replace hP := Lib.hid hP.out
      replace hst := Lib.hid hst.out
      have hX := Lib.hid (hV.out.alloc #[.int .i64 s.call, .int .i64 s.thread, .int .i64 s.from_, .int .i64 s.to, .int .i64 s.act.kind, .int .i64 s.act.txn, .int .i64 s.act.t, .int .i64 s.act.r, .int .i64 s.act.mode, .int .i64 s.act.code] 45)
      clear hV
      go_wp2_with fail
      refine (hP.out _).mono ?_
      rintro r w2 ⟨rfl, q⟩
      replace hX := Lib.hid (hX.out.below q)
      have c0 := hX.out.gblk.cell 0
      simp at c0
      clear q hP z0 z1 z2 z3 z4 z5 z6 z7 z8 z9
      cases op with
      | true =>
        have h1c : Hid (∀ u ∈ ([.int .i64 s.call] : List Value), u.oneCell' = true) := Lib.hid (by simp [Value.oneCell'])
        go_wp2_with (at_builtin; refine wpList_append_sep (hX.out.to1.allocG _) rfl _ _ 39 rfl i0 _ 8 Tryd.underlying39 hi0 hz0 hz1 hz2 rfl (by decide) rfl 1 [.int .i64 s.call] (SrcA.one _ _ _ _) h1c.out ?c3 ?c4 ?_)
        case c3 => simp only [maxLen]; omega
        case c4 => omega
        intro oa' oc' w3 q
        replace q := Lib.hid q
        go_wp2_with fail
        go_roundw
        case rel => exact ⟨j + 1, oa', oc', m + 1, by omega, by omega, rfl, by go_num, Lib.hid (by rw [hst.out]; simp [hml.out]), Lib.hid (by have := q.out.to1.tail; rw [hst.out, List.map_append]; exact this)⟩
        case measure => simp [intOf]; omega
      | false =>
        go_wp2_with fail
        go_roundw
        case rel => exact ⟨j + 1, oa, oc, m, by omega, by omega, rfl, by go_num, Lib.hid (by rw [hst.out]; simp [hml.out]), Lib.hid (by have := hX.out.tail; rw [hst.out]; simpa using this)⟩
        case measure => simp [intOf]; omega
    · have hjn : j = n := by omega
      have ht : S.take j = S := List.take_of_length_le (by rw [hnS.out]; omega)
      have hml2 := hml.out
      have hV2 := hV.out
      rw [ht] at hml2 hV2
      replace hml2 := Lib.hid hml2
      replace hV2 := Lib.hid hV2
      clear ht hml hV
      go_wp2_with fail
      go_ret
      rw [hml2.out]
      exact ⟨oa, oc, rfl, hV2.out.to1.tail⟩
/-- The events that are not beginnings of calls that do not end. -/
def goneS (S : List Sp) : List Int := (S.filter opens).map (·.from_)
def complE (S : List Sp) : List Ev → Nat → List Ev
  | [], _ => []
  | e :: l, k => if (goneS S).contains (k : Int) then complE S l (k + 1) else e :: complE S l (k + 1)
theorem gone_step {S : List Sp} {k : Nat} {s : Sp} (h : S[k]? = some s) : goneS (S.take (k + 1)) = goneS (S.take k) ++ if opens s then [s.from_] else [] := by
  obtain ⟨h1, h2⟩ := List.getElem?_eq_some_iff.1 h
  unfold goneS
  rw [List.take_succ_eq_append_getElem h1, h2, List.filter_append, List.map_append]
  cases ho : opens s <;> simp [ho]
theorem compl_snoc (S : List Sp) (e : Ev) : ∀ (l : List Ev) (k : Nat), complE S (l ++ [e]) k = complE S l k ++ if (goneS S).contains ((k + l.length : Nat) : Int) then [] else [e]
  | [], k => by simp [complE]
  | x :: l, k => by
    have ih := compl_snoc S e l (k + 1)
    simp only [List.cons_append, complE, ih]
    have e1 : (k + 1 + l.length : Nat) = k + (x :: l).length := by simp; omega
    rw [e1]
    split <;> rfl
theorem compl_len (S : List Sp) : ∀ (l : List Ev) (k : Nat), (complE S l k).length ≤ l.length
  | [], k => by simp [complE]
  | x :: l, k => by
    have := compl_len S l (k + 1)
    simp only [complE]
    split <;> simp <;> omega
theorem take_snoc_get {α : Type} {l : List α} {k : Nat} {e : α} (h : l[k]? = some e) : l.take (k + 1) = l.take k ++ [e] := by
  obtain ⟨h1, h2⟩ := List.getElem?_eq_some_iff.1 h
  rw [List.take_succ_eq_append_getElem h1, h2]
set_option maxHeartbeats 4000000 in
set_option maxRecDepth 100000 in
theorem complete_any (v : Value) (l : List Ev) (w : World) (hv : RL w v 9 l.length (ecells l)) (hl : l.length ≤ 1000) :
    Calls Tryd.prog 11 #[v] w fun r w' => ∃ a c, r = .returned (.slice a (complE (walkS l 0 []).1 l 0).length c) ∧ Sep w' [vec 31 9 (.slice a (complE (walkS l 0 []).1 l 0).length c) (complE (walkS l 0 []).1 l 0).length (ecells (complE (walkS l 0 []).1 l 0)), old w] := by
  have hmm := @run_makeMap Tryd.prog
  have H := Lib.hid (fun W hb => spans_any v l W (hv.below hb) hl)
  have hSl := walkS_len l 0 []
  obtain ⟨S, hS0⟩ : ∃ S, (walkS l 0 []).1 = S := ⟨_, rfl⟩
  rw [hS0] at hSl
  simp only [hS0] at H
  rw [hS0]
  clear hS0
  obtain ⟨n, hnS⟩ : ∃ n, Hid (S.length = n) := ⟨_, rfl⟩
  obtain ⟨n', hnl⟩ : ∃ n, Hid (l.length = n) := ⟨_, rfl⟩
  have hn1 : n ≤ 1000 := by rw [← hnS.out]; simp at hSl; omega
  rw [hnl.out] at hl hv
  simp only [hnS.out] at H
  replace H := Lib.hid H.out
  obtain ⟨i0, hi0, hz0, hz1, hz2⟩ := info_parts info_event
  obtain ⟨ZZ, hZZ⟩ : ∃ Z, Hid (complE S l 0 = Z) := ⟨_, rfl⟩
  rw [hZZ.out]
  have hv2 := hv
  obtain ⟨_, av, cv, rfl, _, _, _⟩ := hv
  replace hv2 := Lib.hid hv2
  clear hSl
  have hM := Lib.hid ((Sep.start w).map_new ekI evU)
  go_enter Tryd.func11, Tryd.ntmps11
  go_wp2_with fail
  clear hmm
  refine (H.out _ hM.out.tail.gold).mono ?_
  rintro e w1 ⟨sa, sc, rfl, q⟩
  have hV0 := Lib.hid (q.graft hM.out)
  clear q H hM
  go_wp2_with fail
  go_loopw [15] (fun x wr => ∃ (j : Nat) (seen : List (Int × Unit)), j ≤ n ∧ x = .int .i64 j ∧ Hid (∀ y, hasL seen y = (goneS (S.take j)).contains y) ∧ Hid (Sep wr [mapr ekI evU w.heap.size seen, vec 45 10 (.slice sa n sc) n (scells S), old w])) (fun x _ => n - (intOf x).toNat)
  case atStart => exact ⟨0, [], Nat.zero_le _, rfl, Lib.hid (fun y => by simp [hasL, goneS]), Lib.hid hV0.out.to1⟩
  case round =>
    clear hV0
    obtain ⟨j, seen, hj, rfl, hse, hV⟩ := hrel
    by_cases hlt : j < n
    · obtain ⟨s, hs⟩ : ∃ s, S[j]? = some s := ⟨S[j]'(by rw [hnS.out]; exact hlt), List.getElem?_eq_getElem _⟩
      obtain ⟨b, off, hab, hb, hz⟩ := sp_cells hV.out.to1.vec_rl hnS.out (by omega)
      subst hab
      obtain ⟨z0, z1, z2, z3, z4, z5, z6, z7, z8, z9⟩ := hz j s hs
      have hst := Lib.hid (gone_step hs)
      have i1 : (0 : Int) ≤ (j : Int) := by omega
      have i2 : (j : Int) < (n : Int) := by omega
      have hP := Lib.hid (fun W => pending_any s W)
      replace hs := Lib.hid hs
      obtain ⟨op, hop⟩ : ∃ op, opens s = op := ⟨_, rfl⟩
      rw [hop] at hP hst
      clear hz
      replace hP := Lib.hid hP.out
      replace hst := Lib.hid hst.out
      have hX := Lib.hid (hV.out.alloc #[.int .i64 s.call, .int .i64 s.thread, .int .i64 s.from_, .int .i64 s.to, .int .i64 s.act.kind, .int .i64 s.act.txn, .int .i64 s.act.t, .int .i64 s.act.r, .int .i64 s.act.mode, .int .i64 s.act.code] 45)
      clear hV
      go_wp2_with fail
      refine (hP.out _).mono ?_
      rintro r w2 ⟨rfl, q⟩
      replace hX := Lib.hid (hX.out.below q)
      have c0 := hX.out.gblk.cell 2
      simp at c0
      clear q hP z0 z1 z2 z3 z4 z5 z6 z7 z8 z9
      cases op with
      | true =>
        go_wp2_with (at_mapUpdate; refine wpList_mapUpdate_map hX.out.to1 lawI Tryd.underlying54 rfl (.tmp 21) (.tmp 23) (.tmp 24) rfl rfl s.from_ () rfl rfl ?_; intro w3 q)
        replace q := Lib.hid q
        go_roundw
        case rel =>
          refine ⟨j + 1, putL seen s.from_ (), by omega, by go_num, Lib.hid (fun y => ?_), Lib.hid q.out.to1.tail⟩
          rw [hasL_putL, hse.out, hst.out, Bool.eq_iff_iff]
          simp [or_comm]
        case measure => simp [intOf]; omega
      | false =>
        go_wp2_with fail
        go_roundw
        case rel =>
          refine ⟨j + 1, seen, by omega, by go_num, Lib.hid (fun y => ?_), Lib.hid hX.out.tail⟩
          rw [hse.out, hst.out]
          simp
        case measure => simp [intOf]; omega
    · obtain rfl : n = j := by omega
      clear hlt hj
      have ht : S.take n = S := List.take_of_length_le (by rw [hnS.out]; omega)
      have hse2 := hse.out
      rw [ht] at hse2
      replace hse2 := Lib.hid hse2
      have hW := Lib.hid (hV.out.vec_nil 31 9)
      clear ht hse hV
      go_wp2_with fail
      go_loopw [6, 28] (fun v x wr => ∃ (k : Nat) (oa : Option Addr) (oc : Nat) (m : Nat), k ≤ n' ∧ m ≤ k ∧ v = .slice oa m oc ∧ x = .int .i64 k ∧ Hid ((complE S (l.take k) 0).length = m) ∧ Hid (Sep wr [vec 31 9 (.slice oa m oc) m (ecells (complE S (l.take k) 0)), mapr ekI evU w.heap.size seen, old w])) (fun _ x _ => n' - (intOf x).toNat)
      case atStart => exact ⟨0, none, 0, 0, Nat.zero_le _, Nat.le_refl _, rfl, rfl, rfl, Lib.hid hW.out.to2.tail⟩
      case round =>
        clear hW
        obtain ⟨k, oa, oc, m, hk, hm, rfl, rfl, hml, hV⟩ := hrel
        by_cases hlt : k < n'
        · obtain ⟨e, he⟩ : ∃ e, l[k]? = some e := ⟨l[k]'(by rw [hnl.out]; exact hlt), List.getElem?_eq_getElem _⟩
          obtain ⟨b, off, hab, hb, hz⟩ := ev_cells hv2.out hnl.out (by omega)
          subst hab
          obtain ⟨z0, z1, z2, z3, z4, z5, z6, z7, z8⟩ := hz k e he
          have ho := hV.out.to2.gold
          rw [← ho.cell (by exact hb)] at z0 z1 z2 z3 z4 z5 z6 z7 z8
          have i1 : (0 : Int) ≤ (k : Int) := by omega
          have i2 : (k : Int) < (n' : Int) := by omega
          have hkl : (l.take k).length = k := by rw [List.length_take, hnl.out]; omega
          have hsn := compl_snoc S e (l.take k) 0
          rw [Nat.zero_add, hkl, ← take_snoc_get he, ← hse2.out] at hsn
          obtain ⟨gn, hgn⟩ : ∃ gn, Hid (hasL seen (k : Int) = gn) := ⟨_, rfl⟩
          rw [hgn.out] at hsn
          replace hsn := Lib.hid hsn
          clear hz ho hkl he
          have hX := Lib.hid (hV.out.alloc #[.int .i64 e.call, .int .i64 e.thread, .bool e.invoke, .int .i64 e.act.kind, .int .i64 e.act.txn, .int .i64 e.act.t, .int .i64 e.act.r, .int .i64 e.act.mode, .int .i64 e.act.code] 31)
          clear hV
          cases gn with
          | true =>
            go_wp2_with (at_lookup; refine wpList_look_set hX.out.to2 lawI Tryd.underlying54 rfl (.tmp 34) (.tmp 35) rfl (zeroU _) rfl (k : Int) rfl ?_; rw [hgn.out])
            go_roundw
            case rel => exact ⟨k + 1, oa, oc, m, by omega, by omega, rfl, by go_num, Lib.hid (by rw [hsn.out]; simp [hml.out]), Lib.hid (by have := (hX.out.tail.allocG (.cells #[] 55)); rw [hsn.out]; simpa using this)⟩
            case measure => simp [intOf]; omega
          | false =>
            have h1c : Hid (∀ u ∈ ([.int .i64 e.call, .int .i64 e.thread, .bool e.invoke, .int .i64 e.act.kind, .int .i64 e.act.txn, .int .i64 e.act.t, .int .i64 e.act.r, .int .i64 e.act.mode, .int .i64 e.act.code] : List Value), u.oneCell' = true) := Lib.hid (by simp [Value.oneCell'])
            have hY := Lib.hid ((hX.out.allocG (.cells #[] 55)).to1)
            have hY1 := Lib.hid (hX.out.to2)
            obtain ⟨_, y0, y1, y2, y3, y4, y5, y6, y7, y8, _⟩ := hY.out.to1.b9
            have hsrc := srcA_cells ((wr.alloc (.cells #[.int .i64 e.call, .int .i64 e.thread, .bool e.invoke, .int .i64 e.act.kind, .int .i64 e.act.txn, .int .i64 e.act.t, .int .i64 e.act.r, .int .i64 e.act.mode, .int .i64 e.act.code] 31)).alloc (.cells #[] 55)) #[.int .i64 e.call, .int .i64 e.thread, .bool e.invoke, .int .i64 e.act.kind, .int .i64 e.act.txn, .int .i64 e.act.t, .int .i64 e.act.r, .int .i64 e.act.mode, .int .i64 e.act.code] 31 1 9 rfl
            simp only [World.size_alloc] at hsrc
            replace hsrc := Lib.hid hsrc
            go_wp2_with (first | (at_lookup; refine wpList_look_set hY1.out lawI Tryd.underlying54 rfl (.tmp 34) (.tmp 35) rfl (zeroU _) rfl (k : Int) rfl ?_; rw [hgn.out]) | (at_builtin; refine wpList_append_sep (hY.out.allocG _) rfl _ _ 23 rfl i0 _ 72 Tryd.underlying23 hi0 hz0 hz1 hz2 rfl (by decide) rfl 1 e.cells hsrc.out h1c.out ?c3 ?c4 ?_))
            case c3 => simp only [maxLen]; omega
            case c4 => omega
            intro oa' oc' w3 q
            replace q := Lib.hid q
            go_wp2_with fail
            go_roundw
            case rel => exact ⟨k + 1, oa', oc', m + 1, by omega, by omega, rfl, by go_num, Lib.hid (by rw [hsn.out]; simp [hml.out]), Lib.hid (by have := q.out.to1.tail; rw [hsn.out]; unfold ecells at *; rw [List.flatMap_append]; simpa using this)⟩
            case measure => simp [intOf]; omega
        · have hkn : k = n' := by omega
          have ht : l.take k = l := List.take_of_length_le (by rw [hnl.out]; omega)
          have hml2 := hml.out
          have hV2 := hV.out
          rw [ht, hZZ.out] at hml2 hV2
          replace hml2 := Lib.hid hml2
          replace hV2 := Lib.hid hV2
          clear ht hml hV
          go_wp2_with fail
          go_ret
          rw [hml2.out]
          exact ⟨oa, oc, rfl, hV2.out.to1.tail⟩
end Go.Proofs.YtechagciefhpbaaDoor
