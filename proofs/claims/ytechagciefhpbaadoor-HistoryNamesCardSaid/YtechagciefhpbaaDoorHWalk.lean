/-
  The walker of histories: the walk over all events; Spans, Check. No condition beside events that can be read.
-/
import Derived.Test.YtechagciefhpbaaDoorHEnd
import Derived.Test.YtechagciefhpbaaDoorHPl
namespace Go.Proofs.YtechagciefhpbaaDoor
set_option linter.unusedSimpArgs false
set_option linter.unusedVariables false
set_option linter.unnecessarySimpa false
open Go.RowKit
/-- The walker, as one part's list. -/
def wkl (p mc mb : Nat) (sa : Option Addr) (sc : Nat) (S : List Sp) (C : List (Int × (Int × Bool))) (B : List (Int × Unit)) (rs : List Res) : List Res :=
  blk p 70 #[.slice sa S.length sc, .map (some mc), .map (some mb)] :: vec 45 10 (.slice sa S.length sc) S.length (scells S) :: mapr ekI evC mc C :: mapr ekI evU mb B :: rs
theorem scells_at {S : List Sp} {q : Nat} {s : Sp} (hq : S[q]? = some s) (j : Nat) (hj : j < 10) : (scells S)[q * 10 + j]? = s.cells[j]? := flat_at Sp.cells 10 sp_len S q j s hq hj
theorem scells_len (S : List Sp) : (scells S).length = S.length * 10 := flat_len Sp.cells 10 sp_len S
theorem scells_snoc (S : List Sp) (s : Sp) : scells (S ++ [s]) = scells S ++ s.cells := by unfold scells; rw [List.flatMap_append]; simp
theorem scells_set : ∀ (S : List Sp) (q : Nat) (s : Sp) (at_ code : Int), S[q]? = some s →
    ((scells S).set (q * 10 + 3) (.int .i64 at_)).set (q * 10 + 4 + 5) (.int .i64 code) = scells (S.set q ⟨s.call, s.thread, s.from_, at_, ⟨s.act.kind, s.act.txn, s.act.t, s.act.r, s.act.mode, code⟩⟩)
  | [], _, _, _, _, h => by simp at h
  | x :: S, 0, s, at_, code, h => by
    simp at h
    subst h
    rfl
  | x :: S, q + 1, s, at_, code, h => by
    have ih := scells_set S q s at_ code (by simpa using h)
    have e : ∀ L : List Sp, scells (x :: L) = x.cells ++ scells L := fun L => by unfold scells; rw [List.flatMap_cons]
    rw [List.set_cons_succ, e, e, ← ih]
    rw [List.set_append_right _ _ (by rw [sp_len]; omega), List.set_append_right _ _ (by rw [sp_len]; omega), sp_len]
    congr 3 <;> omega
/-- A beginning. -/
theorem begin_step (p mc mb : Nat) (sa : Option Addr) (sc : Nat) (S : List Sp) (C : List (Int × (Int × Bool))) (B : List (Int × Unit)) (e : Ev) (k : Nat) (w : World) (rs : List Res)
    (hS : Sep w (wkl p mc mb sa sc S C B rs)) (hI : WInv S C B) (hl : S.length ≤ 1000) (hs : shapeB e = true) (hi : e.invoke = true) :
    Calls Tryd.prog 31 #[.pointer (some ⟨p, 0, none⟩), e.val, .int .i64 k] w fun r w' => r = .returned (.int .i64 (nextE S e)) ∧
      ∃ sa' sc' S' C' B', Sep w' (wkl p mc mb sa' sc' S' C' B' rs) ∧ WInv S' C' B' ∧ S' = (if nextE S e = 0 then stepS S k e else S) := by
  rcases hI.begin_ways hs hi with ⟨x, h1, h2⟩ | ⟨h1, h2, h3⟩ | ⟨h1, h2, h3⟩
  · refine (begin_twice p _ sc mc mb sa _ C B e k w rs hS x h1).mono ?_
    rintro r w' ⟨rfl, q⟩
    exact ⟨by rw [h2], _, _, _, _, _, q, hI, by rw [h2]; rfl⟩
  · refine (begin_busy p _ sc mc mb sa _ C B e k w rs hS h1 h2).mono ?_
    rintro r w' ⟨rfl, q⟩
    exact ⟨by rw [h3], _, _, _, _, _, q, hI, by rw [h3]; rfl⟩
  · refine (begin_ok p _ sc mc mb sa _ C B e k w rs hS hl h1 h2).mono ?_
    rintro r w' ⟨na, nc, rfl, q⟩
    have hst : stepS S k e = S ++ [newSp k e] := by unfold stepS; rw [if_pos hi]
    refine ⟨by rw [h3], na, nc, stepS S k e, _, _, ?_, hI.begin hi h1 h2 k, by rw [h3]; rfl⟩
    unfold wkl
    rw [hst, scells_snoc, List.length_append]
    exact q
/-- An end. -/
theorem end_step (p mc mb : Nat) (sa : Option Addr) (sc : Nat) (S : List Sp) (C : List (Int × (Int × Bool))) (B : List (Int × Unit)) (e : Ev) (k : Nat) (w : World) (rs : List Res)
    (hS : Sep w (wkl p mc mb sa sc S C B rs)) (hI : WInv S C B) (hs : shapeB e = true) (hi : e.invoke = false) :
    Calls Tryd.prog 32 #[.pointer (some ⟨p, 0, none⟩), e.val, .int .i64 k] w fun r w' => r = .returned (.int .i64 (nextE S e)) ∧
      ∃ sa' sc' S' C' B', Sep w' (wkl p mc mb sa' sc' S' C' B' rs) ∧ WInv S' C' B' ∧ S' = (if nextE S e = 0 then stepS S k e else S) := by
  rcases hI.end_ways hs hi with ⟨h1, h2⟩ | ⟨pl, h1, h2⟩ | ⟨q, s, h1, hq, hc, ho, ⟨h2, h3⟩ | ⟨h2, h3⟩⟩
  · refine (end_none p _ sc mc mb sa _ C B e k w rs hS h1).mono ?_
    rintro r w' ⟨rfl, q⟩
    exact ⟨by rw [h2], _, _, _, _, _, q, hI, by rw [h2]; rfl⟩
  · refine (end_closed p _ sc mc mb sa _ C B e k w rs hS pl h1).mono ?_
    rintro r w' ⟨rfl, q⟩
    exact ⟨by rw [h2], _, _, _, _, _, q, hI, by rw [h2]; rfl⟩
  · refine (end_other p _ sc mc mb sa _ C B e k w rs hS q s.thread h1 (List.getElem?_eq_some_iff.1 hq).1 (by rw [scells_at hq 1 (by omega)]; rfl) h2).mono ?_
    rintro r w' ⟨rfl, q⟩
    exact ⟨by rw [h3], _, _, _, _, _, q, hI, by rw [h3]; rfl⟩
  · have hql := (List.getElem?_eq_some_iff.1 hq).1
    have h9 : (((scells S).set (q * 10 + 3) (.int .i64 (k : Int)))[q * 10 + 4 + 5]?) = some (.int .i64 s.act.code) := by
      rw [List.getElem?_set_ne (by omega), Nat.add_assoc, scells_at hq 9 (by omega)]
      rfl
    refine (end_ok p _ sc mc mb sa _ C B e k w rs hS q (.int .i64 s.to) _ h1 hql (scells_len S) (by rw [scells_at hq 1 (by omega), ← h2]; rfl) (by rw [scells_at hq 3 (by omega)]; rfl) h9).mono ?_
    rintro r w' ⟨rfl, z⟩
    have hst : stepS S k e = S.set q (closeSp k e s) := by
      unfold stepS
      rw [if_neg (by rw [hi]; simp)]
      exact close_set hI hq hc k
    refine ⟨by rw [h3], sa, sc, stepS S k e, _, _, ?_, hI.close hi hq hc h2 ho k, by rw [h3]; rfl⟩
    rw [scells_set S q s k e.act.code hq] at z
    have hcs : closeSp k e s = ⟨s.call, s.thread, s.from_, k, ⟨s.act.kind, s.act.txn, s.act.t, s.act.r, s.act.mode, e.act.code⟩⟩ := by
      unfold closeSp
      rw [if_pos hc]
    unfold wkl
    rw [hst, List.length_set, hcs]
    exact z
def evcs (call thread : Int) (inv : Bool) (kind txn t r mode code : Int) : Array Value := #[.int .i64 call, .int .i64 thread, .bool inv, .int .i64 kind, .int .i64 txn, .int .i64 t, .int .i64 r, .int .i64 mode, .int .i64 code]
theorem ev_cells {w : World} {a : Option Addr} {n c : Nat} {l : List Ev} (hv : RL w (.slice a n c) 9 n (ecells l)) (hn : l.length = n) (h0 : 0 < n) : ∃ b off, a = some ⟨b, off, none⟩ ∧ b < w.heap.size ∧ ∀ k e, l[k]? = some e →
    w.cell? ⟨b, off + k * 9, none⟩ = some (.int .i64 e.call) ∧ w.cell? ⟨b, off + k * 9 + 1, none⟩ = some (.int .i64 e.thread) ∧ w.cell? ⟨b, off + k * 9 + 2, none⟩ = some (.bool e.invoke) ∧ w.cell? ⟨b, off + k * 9 + 3, none⟩ = some (.int .i64 e.act.kind) ∧ w.cell? ⟨b, off + k * 9 + 4, none⟩ = some (.int .i64 e.act.txn) ∧
    w.cell? ⟨b, off + k * 9 + 5, none⟩ = some (.int .i64 e.act.t) ∧ w.cell? ⟨b, off + k * 9 + 6, none⟩ = some (.int .i64 e.act.r) ∧ w.cell? ⟨b, off + k * 9 + 7, none⟩ = some (.int .i64 e.act.mode) ∧ w.cell? ⟨b, off + k * 9 + 8, none⟩ = some (.int .i64 e.act.code) := by
  subst hn
  obtain ⟨_, a', c', hv, hc, hna, hr⟩ := hv
  injection hv with e1 e2 e3
  subst e1
  obtain ⟨b, off, rfl, hb, hz⟩ := hr h0
  refine ⟨b, off, rfl, hb, fun k e hk => ?_⟩
  have h : ∀ j u, e.cells[j]? = some u → w.cell? ⟨b, off + (k * 9 + j), none⟩ = some u := fun j u hu => hz _ _ (by
    have hj : j < 9 := (List.getElem?_eq_some_iff.1 hu).1
    unfold ecells
    rw [flat_at Ev.cells 9 ev_len l k j e hk hj]
    exact hu)
  exact ⟨h 0 _ rfl, h 1 _ rfl, h 2 _ rfl, h 3 _ rfl, h 4 _ rfl, h 5 _ rfl, h 6 _ rfl, h 7 _ rfl, h 8 _ rfl⟩
set_option maxHeartbeats 4000000 in
set_option maxRecDepth 100000 in
theorem walk_any (v : Value) (l : List Ev) (w : World) (hv : RL w v 9 l.length (ecells l)) (hl : l.length ≤ 1000) :
    Calls Tryd.prog 18 #[v] w fun r w' => ∃ sa sc, r = .returned (.tuple #[.slice sa (walkS l 0 []).1.length sc, .int .i64 (walkS l 0 []).2.1, .int .i64 (walkS l 0 []).2.2]) ∧ Sep w' [vec 45 10 (.slice sa (walkS l 0 []).1.length sc) (walkS l 0 []).1.length (scells (walkS l 0 []).1), old w] := by
  have hmm := @run_makeMap Tryd.prog
  have h0 := (((Sep.start w).map_new ekI evC).map_new ekI evU).alloc #[.slice none 0 0, .map (some w.heap.size), .map (some (w.heap.size + 1))] 70
  simp only [World.size_alloc] at h0
  have hS := Lib.hid (show Sep _ (wkl (w.heap.size + 1 + 1) w.heap.size (w.heap.size + 1) none 0 [] [] [] [old w]) from (h0.vec_nil 45 10).to2.to3.to2.to3)
  obtain ⟨R, hR0⟩ : ∃ R, Hid (R = walkS l 0 []) := ⟨_, rfl⟩
  rw [← hR0.out]
  obtain ⟨n, hn⟩ : ∃ n, Hid (l.length = n) := ⟨_, rfl⟩
  rw [hn.out] at hv hl
  have hv2 := hv
  obtain ⟨_, a, c, rfl, hc, hna, _⟩ := hv
  replace hv2 := Lib.hid hv2
  clear h0 hna hc
  go_enter Tryd.func18, Tryd.ntmps18
  go_wp2_with fail
  clear hmm
  go_loopw [15] (fun i wr => ∃ k S C B sa sc, k ≤ n ∧ i = .int .i64 k ∧ Hid (S.length ≤ k) ∧ Hid (WInv S C B) ∧ Hid (R = walkS (l.drop k) k S) ∧ Hid (Sep wr (wkl (w.heap.size + 1 + 1) w.heap.size (w.heap.size + 1) sa sc S C B [old w]))) (fun i _ => n - (intOf i).toNat)
  case atStart => exact ⟨0, [], [], [], none, 0, Nat.zero_le _, rfl, Lib.hid (Nat.le_refl _), WInv.nil, hR0, hS⟩
  case round =>
    clear hS hR0
    obtain ⟨k, S, C, B, sa, sc, hk, rfl, hSk, hI, hR, hS⟩ := hrel
    by_cases hlt : k < n
    · obtain ⟨e, he⟩ : ∃ e, Hid (l[k]? = some e) := ⟨l[k]'(by rw [hn.out]; exact hlt), List.getElem?_eq_getElem _⟩
      obtain ⟨b, off, rfl, hb, hz⟩ := ev_cells hv2.out hn.out (by omega)
      obtain ⟨z0, z1, z2, z3, z4, z5, z6, z7, z8⟩ := hz k e he.out
      have ho := hS.out.to4.gold
      rw [← ho.cell (by exact hb)] at z0 z1 z2 z3 z4 z5 z6 z7 z8
      have i1 : (0 : Int) ≤ (k : Int) := by omega
      have i2 : (k : Int) < (n : Int) := by omega
      have hSl : Hid (S.length ≤ 1000) := Lib.hid (by have := hSk.out; omega)
      have hstep : Hid (∀ T, stepS S k e = T → T.length ≤ k + 1) := Lib.hid (fun T hT => by have h1 := stepS_len S k e; rw [hT] at h1; have h2 := hSk.out; omega)
      have hRn : Hid (R = if nextE S e = 0 then walkS (l.drop (k + 1)) (k + 1) (stepS S k e) else (S, (k : Int), nextE S e)) := by
        refine Lib.hid ?_
        rw [hR.out]
        exact walkS_cons he.out
      clear ho hz hSk hR
      have hX := Lib.hid (hS.out.alloc #[.int .i64 e.call, .int .i64 e.thread, .bool e.invoke, .int .i64 e.act.kind, .int .i64 e.act.txn, .int .i64 e.act.t, .int .i64 e.act.r, .int .i64 e.act.mode, .int .i64 e.act.code] 31)
      clear hS
      cases hsh : shapeB e with
      | false =>
        have hN : Hid (nextE S e = 2) := Lib.hid (by unfold nextE; rw [if_pos hsh])
        have hSh := Lib.hid (fun w => shape_any e w)
        unfold shapeN Ev.val at hSh
        simp only [hsh, Bool.false_eq_true, if_false] at hSh
        replace hsh := Lib.hid hsh
        go_wp2_with fail
        refine (hSh.out _).mono ?_
        rintro r w1 ⟨rfl, q⟩
        replace hX := Lib.hid (show Sep _ (wkl _ _ _ _ _ _ _ _ _) from ((hX.out.below q).to4.to4.to4.to4))
        obtain ⟨_, c0, _⟩ := hX.out.b3
        clear q z0 z1 z2 z3 z4 z5 z6 z7 z8
        go_wp2_with fail
        go_ret3
        rw [hRn.out, hN.out, if_neg (by decide)]
        exact ⟨sa, sc, rfl, hX.out.tail.to3.tail.to2.tail.to1.tail⟩
      | true =>
        obtain ⟨ne, hne⟩ : ∃ ne, Hid (nextE S e = ne) := ⟨_, rfl⟩
        obtain ⟨call, thread, inv, ⟨kind, txn, t, r_, mode, code⟩⟩ := e
        simp only at z0 z1 z2 z3 z4 z5 z6 z7 z8
        cases inv with
        | true =>
          have hSh := Lib.hid (fun w => shape_any ⟨call, thread, true, ⟨kind, txn, t, r_, mode, code⟩⟩ w)
          unfold shapeN at hSh
          simp only [hsh, if_true] at hSh
          replace hsh := Lib.hid hsh
          have hSt := Lib.hid (fun W rs hS => begin_step (w.heap.size + 1 + 1) w.heap.size (w.heap.size + 1) sa sc S C B ⟨call, thread, true, ⟨kind, txn, t, r_, mode, code⟩⟩ k W rs hS hI.out hSl.out hsh.out rfl)
          unfold Ev.val at hSh hSt
          simp only [hne.out] at hSh hSt
          replace hSh := Lib.hid hSh
          replace hSt := Lib.hid hSt
          replace hX := Lib.hid hX.out
          go_wp2_with fail
          refine (hSh.out.out _).mono ?_
          rintro r w1 ⟨rfl, q⟩
          replace hX := Lib.hid (hX.out.below q)
          obtain ⟨_, d0, d1, d2, d3, d4, d5, d6, d7, d8, _⟩ := hX.out.b9
          clear q z0 z1 z2 z3 z4 z5 z6 z7 z8
          go_wp2_with fail
          refine (hSt.out.out _ _ (show Sep _ (wkl _ _ _ _ _ _ _ _ _) from hX.out.to4.to4.to4.to4)).mono ?_
          rintro r w2 ⟨rfl, sa', sc', S', C', B', q, hI', hS'⟩
          clear d0 d1 d2 d3 d4 d5 d6 d7 d8 hX hSh hSt
          replace hI' := Lib.hid hI'
          replace hS' := Lib.hid hS'
          replace q := Lib.hid q
          by_cases h0 : ne = 0
          · subst h0
            have hSn := hS'.out
            rw [if_pos rfl] at hSn
            have hR2 := hRn.out
            rw [hne.out, if_pos rfl, ← hSn] at hR2
            have hlen := hstep.out S' hSn.symm
            replace hR2 := Lib.hid hR2
            replace hSn := Lib.hid hSn
            replace hlen := Lib.hid hlen
            go_wp2_with fail
            go_roundw
            case rel => exact ⟨k + 1, S', C', B', sa', sc', by omega, by go_num, hlen, hI', hR2, Lib.hid q.out.to4.tail⟩
            case measure => simp [intOf]; omega
          · have h1 : (ne == 0) = false := beq_eq_false_iff_ne.2 h0
            have h2 : (ne != 0) = true := by rw [bne, h1]; rfl
            have hR2 := hRn.out
            rw [hne.out, if_neg h0] at hR2
            have hSn := hS'.out
            rw [if_neg h0] at hSn
            subst hSn
            replace hR2 := Lib.hid hR2
            replace h0 := Lib.hid h0
            obtain ⟨_, c0, _⟩ := q.out.b3
            go_wp2_with fail
            go_ret3
            rw [hR2.out]
            exact ⟨sa', sc', rfl, q.out.tail.to3.tail.to2.tail.to1.tail⟩
        | false =>
          have hSh := Lib.hid (fun w => shape_any ⟨call, thread, false, ⟨kind, txn, t, r_, mode, code⟩⟩ w)
          unfold shapeN at hSh
          simp only [hsh, if_true] at hSh
          replace hsh := Lib.hid hsh
          have hSt := Lib.hid (fun W rs hS => end_step (w.heap.size + 1 + 1) w.heap.size (w.heap.size + 1) sa sc S C B ⟨call, thread, false, ⟨kind, txn, t, r_, mode, code⟩⟩ k W rs hS hI.out hsh.out rfl)
          unfold Ev.val at hSh hSt
          simp only [hne.out] at hSh hSt
          replace hSh := Lib.hid hSh
          replace hSt := Lib.hid hSt
          replace hX := Lib.hid hX.out
          go_wp2_with fail
          refine (hSh.out.out _).mono ?_
          rintro r w1 ⟨rfl, q⟩
          replace hX := Lib.hid (hX.out.below q)
          obtain ⟨_, d0, d1, d2, d3, d4, d5, d6, d7, d8, _⟩ := hX.out.b9
          clear q z0 z1 z2 z3 z4 z5 z6 z7 z8
          go_wp2_with fail
          refine (hSt.out.out _ _ (show Sep _ (wkl _ _ _ _ _ _ _ _ _) from hX.out.to4.to4.to4.to4)).mono ?_
          rintro r w2 ⟨rfl, sa', sc', S', C', B', q, hI', hS'⟩
          clear d0 d1 d2 d3 d4 d5 d6 d7 d8 hX hSh hSt
          replace hI' := Lib.hid hI'
          replace hS' := Lib.hid hS'
          replace q := Lib.hid q
          by_cases h0 : ne = 0
          · subst h0
            have hSn := hS'.out
            rw [if_pos rfl] at hSn
            have hR2 := hRn.out
            rw [hne.out, if_pos rfl, ← hSn] at hR2
            have hlen := hstep.out S' hSn.symm
            replace hR2 := Lib.hid hR2
            replace hSn := Lib.hid hSn
            replace hlen := Lib.hid hlen
            go_wp2_with fail
            go_roundw
            case rel => exact ⟨k + 1, S', C', B', sa', sc', by omega, by go_num, hlen, hI', hR2, Lib.hid q.out.to4.tail⟩
            case measure => simp [intOf]; omega
          · have h1 : (ne == 0) = false := beq_eq_false_iff_ne.2 h0
            have h2 : (ne != 0) = true := by rw [bne, h1]; rfl
            have hR2 := hRn.out
            rw [hne.out, if_neg h0] at hR2
            have hSn := hS'.out
            rw [if_neg h0] at hSn
            subst hSn
            replace hR2 := Lib.hid hR2
            replace h0 := Lib.hid h0
            obtain ⟨_, c0, _⟩ := q.out.b3
            go_wp2_with fail
            go_ret3
            rw [hR2.out]
            exact ⟨sa', sc', rfl, q.out.tail.to3.tail.to2.tail.to1.tail⟩
    · obtain ⟨_, c0, _⟩ := hS.out.b3
      have hkn : k = n := by omega
      have hR2 : Hid (R = (S, 0, 0)) := by
        refine Lib.hid ?_
        rw [hR.out, List.drop_of_length_le (by rw [hn.out]; omega)]
        rfl
      go_wp2_with fail
      go_ret3
      rw [hR2.out]
      exact ⟨sa, sc, rfl, hS.out.tail.to2.tail.to1.tail⟩
end Go.Proofs.YtechagciefhpbaaDoor
