/-
  The contract of Bytes: a script's bytes, or an error. No condition beside a script that can be read.
-/
import Derived.Test.YtdpolejbceoldaaDoorScY
import Derived.Test.YtdpolejbceoldaaDoorScC
namespace Go.Proofs.YtdpolejbceoldaaDoor
set_option linter.unusedSimpArgs false
set_option linter.unusedVariables false
set_option linter.unnecessarySimpa false
open Go.RowKit
theorem isB_new (w : World) : IsB w.heap.size w.heap.size [] (w.alloc (.cells #[.pointer none, .slice none 0 0] 79)) := by
  refine .inl ⟨Nat.le_refl _, .slice none 0 0, ?_, World.ownsRowF_of (World.ownsRow_nil _ _ _ _), by simp [Value.ownBlock]⟩
  exact heap_alloc_new w _
theorem opsE_take (L : List (List Oq)) (t k : Nat) (hk : k < L.length) : opsE t (L.take (k + 1)) = opsE t (L.take k) ++ (L.getD k []).map (opE (t + k)) := by
  induction L generalizing t k with
  | nil => simp at hk
  | cons l L ih =>
    cases k with
    | zero => simp [opsE]
    | succ k =>
      have := ih (t + 1) k (by simpa using hk)
      rw [List.take_succ_cons, opsE, this, List.take_succ_cons, opsE, List.getD_cons_succ, List.append_assoc, show t + 1 + k = t + (k + 1) by omega]
theorem opsE_len : ∀ (L : List (List Oq)) (t : Nat), (∀ l ∈ L, l.length ≤ 32) → (opsE t L).length ≤ 32 * L.length
  | [], _, _ => by simp [opsE]
  | l :: L, t, h => by
    have h1 := h l (List.mem_cons_self ..)
    have h2 := opsE_len L (t + 1) (fun x hx => h x (List.mem_cons_of_mem _ hx))
    rw [opsE, List.length_append, List.length_map, List.length_cons]
    omega
theorem isB_lt {B b : Nat} {bs : List Value} {w : World} (h : IsB B b bs w) : b < w.heap.size := h.elim (fun h => h.lt) (fun h => h.lt)
/-- An entry more, out of a slice laid for it. -/
theorem entryE_any (B : Nat) (E : List (Nat → Int)) (f : Nat → Int) (l : List Int) (m : Nat) (W0 : World) (hB : IsB B B (encV E) W0) (hlen : E.length ≤ 100000) (hl : l.length = m) (hm : m ≤ 8) (hf : fitE f) (hlf : ∀ j, j < 8 → l.getD j 0 = f j) :
    Calls Tryd.prog 45 #[.pointer (some ⟨B, 0, none⟩), .slice (some ⟨W0.heap.size, 0, none⟩) m m] (W0.alloc (.cells (l.map (Value.int .i64)).toArray 3)) fun e w' => e = .returned (.tuple #[]) ∧ IsB B B (encV (E ++ [f])) w' ∧ Below B W0 w' := by
  have hlt := isB_lt hB
  refine (entry8_any B B W0.heap.size m m (encV E) l (W0.alloc (.cells (l.map (Value.int .i64)).toArray 3)) hl hm (Go.Lib.IsBuilderF.alloc hB _) (by rw [encV_len]; omega) (by rw [World.size_alloc]; omega) (Blk.new _ _ _) (by omega) (fun j => ?_)).mono ?_
  · by_cases hj : j < 8
    · rw [hlf j hj]; exact hf j
    · rw [List.getD_eq_getElem?_getD, List.getElem?_eq_none (by omega)]
      exact ⟨by decide, by decide⟩
  · rintro e w1 ⟨rfl, h1, h2⟩
    refine ⟨rfl, ?_, ((Below.refl B W0).alloc (by omega) _).trans h2⟩
    rw [encV_app, encV_one]
    rw [ent8_congr (f := fun j => l.getD j 0) (g := f) hlf] at h1
    exact h1
set_option maxHeartbeats 8000000 in
set_option maxRecDepth 100000 in
theorem bytes_bad (tv pv : Value) (S : Sc) (vs : List Value) (w : World) (hm : ScSm S) (h : scR w tv pv S vs) (hc : chkS S = false) :
    Calls Tryd.prog 19 #[.agg #[tv, pv, .int .i64 S.c0, .int .i64 S.c1, .int .i64 S.c2, .int .i64 S.c3]] w fun e w' => e = .returned (.tuple #[.string ⟨#[]⟩, .int .i64 2]) ∧ Below w.heap.size w w' := by
  have HC := Lib.hid (fun W (hb : Below w.heap.size w W) => check_any tv pv S vs W hm (h.below hb))
  rw [show chkErr S = 2 by unfold chkErr; rw [hc]; rfl] at HC
  obtain ⟨_, ta, tc, rfl, _⟩ := id h.th
  obtain ⟨_, pa, pc, rfl, _⟩ := id h.pk
  have hS := Lib.hid ((Sep.start w).alloc #[.slice ta S.ths.length tc, .slice pa S.pks.length pc, .int .i64 S.c0, .int .i64 S.c1, .int .i64 S.c2, .int .i64 S.c3] 30)
  obtain ⟨_, b0, b1, b2, b3, b4, b5, _⟩ := hS.out.b6
  clear h hc hm
  go_enter Tryd.func19, Tryd.ntmps19
  go_wp2_with (go_at_call 18; refine (HC.out _ hS.out.tail.gold).mono ?_; rintro e w2 ⟨rfl, q2⟩; replace hS := Lib.hid (hS.out.below q2); clear q2)
  go_ret2
  exact ⟨rfl, hS.out.tail.gold⟩
set_option maxHeartbeats 8000000 in
set_option maxRecDepth 100000 in
theorem bytes_ok (tv pv : Value) (S : Sc) (vs : List Value) (w : World) (hm : ScSm S) (h : scR w tv pv S vs) (hc : chkS S = true) :
    Calls Tryd.prog 19 #[.agg #[tv, pv, .int .i64 S.c0, .int .i64 S.c1, .int .i64 S.c2, .int .i64 S.c3]] w fun e w' => e = .returned (.tuple #[.string (bytesOf S), .int .i64 0]) ∧ Below w.heap.size w w' := by
  have HC := Lib.hid (fun W (hb : Below w.heap.size w W) => check_any tv pv S vs W hm (h.below hb))
  rw [show chkErr S = 0 by unfold chkErr; rw [hc]; rfl] at HC
  obtain ⟨hn1, hn8, hp4, hcap, hops, hpks⟩ := (chk_iff S).1 hc
  have hfc := fit_cp hcap hn8
  have hcells := Lib.hid (enc_cells (encS S) (fit_enc hc))
  obtain ⟨_, ta, tc, rfl, _⟩ := id h.th
  obtain ⟨_, pa, pc, rfl, _⟩ := id h.pk
  have hH := Lib.hid (fun k hk => h.hd (k := k) hk)
  have hPk := Lib.hid h.pk
  have hS0 := (Sep.start w).alloc #[.slice ta S.ths.length tc, .slice pa S.pks.length pc, .int .i64 S.c0, .int .i64 S.c1, .int .i64 S.c2, .int .i64 S.c3] 30
  obtain ⟨n, hn⟩ : ∃ n, S.ths.length = n := ⟨_, rfl⟩
  obtain ⟨np, hnp⟩ : ∃ n, S.pks.length = n := ⟨_, rfl⟩
  have hcpE : Hid (∀ j, j < 8 → ([1, S.c0, S.c1, S.c2, S.c3, (n : Int)] : List Int).getD j 0 = cpE S j) := Lib.hid (fun j hj => by
    match j, hj with
    | 0, _ => rfl
    | 1, _ => rfl
    | 2, _ => rfl
    | 3, _ => rfl
    | 4, _ => rfl
    | 5, _ => show (n : Int) = _; rw [← hn]; rfl
    | 6, _ => rfl
    | 7, _ => rfl)
  rw [hn] at hS0 hH hn8
  rw [hnp] at hS0 hPk hp4
  simp only [hn, hnp]
  simp only [hn, hnp] at HC
  have hS := Lib.hid hS0
  replace hn := Lib.hid hn
  replace hnp := Lib.hid hnp
  replace hops := Lib.hid hops
  replace hpks := Lib.hid hpks
  replace hfc := Lib.hid hfc
  obtain ⟨bo, hbo⟩ : ∃ bo, bo = bytesOf S := ⟨_, rfl⟩
  rw [← hbo]
  replace hbo := Lib.hid hbo
  clear h hc hm hS0 hcap
  obtain ⟨_, b0, b1, b2, b3, b4, b5, _⟩ := hS.out.b6
  go_enter Tryd.func19, Tryd.ntmps19
  go_wp2_with (go_at_call 18; refine (HC.out _ hS.out.tail.gold).mono ?_; rintro e w2 ⟨rfl, q2⟩; replace hS := Lib.hid (hS.out.below q2); clear q2 b0 b1 b2 b3 b4 b5; obtain ⟨_, b0, b1, b2, b3, b4, b5, _⟩ := hS.out.b6)
  have hB0 := isB_new w2
  have hb0 := Lib.hid (Below.refl w2.heap.size w2)
  have hb00 := Lib.hid hS.out.tail.gold
  have hlo := Lib.hid hS.out.gblk.lt
  have HE0 := Lib.hid (entryE_any w2.heap.size [] (cpE S) [1, S.c0, S.c1, S.c2, S.c3, (n : Int)] 6 (w2.alloc (.cells #[.pointer none, .slice none 0 0] 79)) hB0 (by decide) rfl (by decide) hfc.out hcpE.out)
  simp only [List.map_cons, List.map_nil, World.size_alloc, List.nil_append] at HE0
  refine HE0.out.mono ?_
  rintro e w3 ⟨rfl, hB3, hb3⟩
  have hb3' := Lib.hid (show Below w2.heap.size w2 w3 from ((Below.refl w2.heap.size w2).alloc (Nat.le_refl _) _).trans hb3)
  replace hB3 := Lib.hid hB3
  have b0' := (hb3'.out.cell (p := ⟨w.heap.size, 0, none⟩) hlo.out).trans b0
  have b1w := Lib.hid (fun W (hb : Below w2.heap.size w2 W) => (hb.cell (p := ⟨w.heap.size, 1, none⟩) hlo.out).trans b1)
  clear HE0 hb3 hB0 hb0 b0 b1 b2 b3 b4 b5 hfc hcpE HC
  go_wp2_with fail
  clear b0'
  go_loopw [37] (fun s wr => ∃ k : Nat, k ≤ n ∧ s = .int .i64 k ∧ Hid (IsB w2.heap.size w2.heap.size (encV (cpE S :: opsE 0 (S.ths.take k))) wr) ∧ Hid (Below w2.heap.size w2 wr)) (fun s _ => n - (intOf s).toNat)
  case atStart => exact ⟨0, Nat.zero_le _, rfl, Lib.hid (by rw [List.take_zero]; exact hB3.out), hb3'⟩
  case round =>
    clear hB3 hb3'
    obtain ⟨k, hk, rfl, hB, hb⟩ := hrel
    by_cases hlt : k < n
    · obtain ⟨g, o, x, y, m, d, E1, l1, z1, hmk, R1⟩ := hH.out k hlt
      injection E1 with E1 _ F1
      subst E1
      subst F1
      have hbw := Lib.hid (hb00.out.trans (hb.out.mono hb00.out.size))
      have c1 := (hbw.out.cell (p := ⟨g, o + k, none⟩) l1).trans z1
      have j1 : (0 : Int) ≤ (k : Int) := by omega
      have j2 : (k : Int) < (n : Int) := by omega
      have hk1 := Lib.hid (show k + 1 ≤ n from hlt)
      have hok := hops.out k
      rw [← hmk] at hok
      have hm32 := hok.1
      have hopk := Lib.hid hok.2
      have hEl : Hid ((cpE S :: opsE 0 (S.ths.take k)).length ≤ 300) := Lib.hid (by
        have h1 := opsE_len (S.ths.take k) 0 (fun l hl => by
          obtain ⟨t, ht, rfl⟩ := List.getElem_of_mem (List.mem_of_mem_take hl)
          have := (hops.out t).1
          rwa [List.getD_eq_getElem?_getD, List.getElem?_eq_getElem ht] at this)
        rw [List.length_take] at h1
        rw [List.length_cons]
        omega)
      have hE2 := Lib.hid (opsE_take S.ths 0 k (by rw [hn.out]; exact hlt))
      rw [Nat.zero_add] at hE2
      generalize S.ths.getD k [] = L at *
      have hlen := Lib.hid hmk.symm
      clear hok hmk z1
      have R1 := Lib.hid R1
      go_wp2_with fail
      go_loopw [44] (fun s wi => ∃ i : Nat, i ≤ m ∧ s = .int .i64 i ∧ Hid (IsB w2.heap.size w2.heap.size (encV ((cpE S :: opsE 0 (S.ths.take k)) ++ (L.take i).map (opE k))) wi) ∧ Hid (Below w2.heap.size w2 wi)) (fun s _ => m - (intOf s).toNat)
      case atStart => exact ⟨0, Nat.zero_le _, rfl, Lib.hid (by rw [List.take_zero, List.map_nil, List.append_nil]; exact hB.out), hb⟩
      case round =>
        clear hB hb
        obtain ⟨i, hi, rfl, hB, hb⟩ := hrel
        by_cases hli : i < m
        · obtain ⟨gb, ob_, rfl, lb, hel0⟩ := op_cells R1.out hlen.out (by omega)
          obtain ⟨o_, ho⟩ : ∃ o, L[i]? = some o := ⟨L[i]'(by rw [hlen.out]; exact hli), List.getElem?_eq_getElem _⟩
          have hoB := hopk.out o_ (List.mem_of_getElem? ho)
          obtain ⟨f0, f1, f2, f3, f4, f5⟩ := hel0 i o_ ho
          have hbwi := hb00.out.trans (hb.out.mono hb00.out.size)
          have k1 : ∀ z, w.cell? ⟨gb, z, none⟩ = wr.cell? ⟨gb, z, none⟩ := fun z => (hbwi.cell (p := ⟨gb, z, none⟩) lb).symm
          rw [k1] at f0 f1 f2 f3 f4 f5
          simp only [← Nat.add_assoc, Nat.add_zero] at f0 f1 f2 f3 f4 f5
          have hE3 := Lib.hid (show (L.take (i + 1)).map (opE k) = (L.take i).map (opE k) ++ [opE k o_] by
            obtain ⟨u1, u2⟩ := List.getElem?_eq_some_iff.1 ho
            rw [List.take_succ_eq_append_getElem (by rw [hlen.out]; exact hli), List.map_append, u2]
            rfl)
          have hfo := fit_op hoB k (by omega)
          obtain ⟨v1, v2, v3, v4, v5, v6⟩ := opB_bd hoB
          obtain ⟨ok, ot, or_, om, ov, ox⟩ := o_
          simp only at f0 f1 f2 f3 f4 f5 v1 v2 v3 v4 v5 v6
          have HEo := Lib.hid (entryE_any w2.heap.size ((cpE S :: opsE 0 (S.ths.take k)) ++ (L.take i).map (opE k)) (opE k ⟨ok, ot, or_, om, ov, ox⟩) [2, (k : Int), ok, ot + 1, or_ + 1, om, ov, ox] 8 (wr.alloc (.cells #[.int .i64 ok, .int .i64 ot, .int .i64 or_, .int .i64 om, .int .i64 ov, .int .i64 ox] 36)) (Go.Lib.IsBuilderF.alloc hB.out _) (by have := hEl.out; rw [List.length_append, List.length_map, List.length_take]; omega) rfl (by decide) hfo (fun j hj => by
            match j, hj with
            | 0, _ => rfl
            | 1, _ => rfl
            | 2, _ => rfl
            | 3, _ => rfl
            | 4, _ => rfl
            | 5, _ => rfl
            | 6, _ => rfl
            | 7, _ => rfl))
          simp only [List.map_cons, List.map_nil, World.size_alloc] at HEo
          have hb9 := Lib.hid (hb.out.alloc hb.out.size (.cells #[.int .i64 ok, .int .i64 ot, .int .i64 or_, .int .i64 om, .int .i64 ov, .int .i64 ox] 36))
          have i0 : (0 : Int) ≤ (i : Int) := by omega
          have i3 : (i : Int) < (m : Int) := by omega
          have hi1 := Lib.hid (show i + 1 ≤ m from hli)
          clear hel0 ho hoB k1 hfo hB hb v1 v4 v5 v6 hbwi
          go_wp2_with (go_at_call 45; refine HEo.out.mono ?_; rintro e w5 ⟨rfl, q1, q2⟩; rw [List.append_assoc, ← hE3.out] at q1; replace q1 := Lib.hid q1; have q3 := Lib.hid (hb9.out.trans q2); clear q2 HEo f0 f1 f2 f3 f4 f5)
          go_roundw
          case rel => exact ⟨i + 1, hi1.out, by go_num, q1, q3⟩
          case measure => have := hi1.out; simp [intOf]; omega
        · obtain rfl : i = m := by omega
          have hB9 := Lib.hid (show IsB w2.heap.size w2.heap.size (encV (cpE S :: opsE 0 (S.ths.take (k + 1)))) wr by
            have h := hB.out
            rw [show L.take i = L from List.take_of_length_le (by rw [hlen.out]; exact Nat.le_refl _)] at h
            rw [hE2.out]
            exact h)
          clear hB
          go_wp2_with fail
          go_roundw
          case rel => exact ⟨k + 1, hk1.out, by go_num, hB9, hb⟩
          case measure => have := hk1.out; simp [intOf]; omega
    · obtain rfl : k = n := by omega
      have hB9 := Lib.hid (show IsB w2.heap.size w2.heap.size (encV ((cpE S :: opsE 0 S.ths) ++ (S.pks.take 0).map pkE)) wr by
        have h := hB.out
        rw [List.take_of_length_le (by rw [hn.out]; exact Nat.le_refl _)] at h
        rw [List.take_zero, List.map_nil, List.append_nil]
        exact h)
      have hEl : Hid ((cpE S :: opsE 0 S.ths).length ≤ 300) := Lib.hid (by
        have h1 := opsE_len S.ths 0 (fun l hl => by
          obtain ⟨t, ht, rfl⟩ := List.getElem_of_mem hl
          have := (hops.out t).1
          rwa [List.getD_eq_getElem?_getD, List.getElem?_eq_getElem ht] at this)
        rw [hn.out] at h1
        rw [List.length_cons]
        omega)
      have b1r := b1w.out wr hb.out
      clear hB
      go_wp2_with fail
      go_loopw [72] (fun s wi => ∃ i : Nat, i ≤ np ∧ s = .int .i64 i ∧ Hid (IsB w2.heap.size w2.heap.size (encV ((cpE S :: opsE 0 S.ths) ++ (S.pks.take i).map pkE)) wi) ∧ Hid (Below w2.heap.size w2 wi)) (fun s _ => np - (intOf s).toNat)
      case atStart => exact ⟨0, Nat.zero_le _, rfl, hB9, hb⟩
      case round =>
        clear hB9 hb b1r
        obtain ⟨i, hi, rfl, hB, hb⟩ := hrel
        by_cases hli : i < np
        · obtain ⟨gb, ob_, rfl, lb, hel0⟩ := pk_cells hPk.out hnp.out (by omega)
          obtain ⟨o_, ho⟩ : ∃ o, S.pks[i]? = some o := ⟨S.pks[i]'(by rw [hnp.out]; exact hli), List.getElem?_eq_getElem _⟩
          have hoB := hpks.out o_ (List.mem_of_getElem? ho)
          obtain ⟨f0, f1⟩ := hel0 i o_ ho
          have hbwi := hb00.out.trans (hb.out.mono hb00.out.size)
          have k1 : ∀ z, w.cell? ⟨gb, z, none⟩ = wr.cell? ⟨gb, z, none⟩ := fun z => (hbwi.cell (p := ⟨gb, z, none⟩) lb).symm
          rw [k1] at f0 f1
          simp only [← Nat.add_assoc, Nat.add_zero] at f0 f1
          have hE3 := Lib.hid (show (S.pks.take (i + 1)).map pkE = (S.pks.take i).map pkE ++ [pkE o_] by
            obtain ⟨u1, u2⟩ := List.getElem?_eq_some_iff.1 ho
            rw [List.take_succ_eq_append_getElem (by rw [hnp.out]; exact hli), List.map_append, u2]
            rfl)
          have hfo := fit_pk hoB
          obtain ⟨pa_, pb_⟩ := o_
          simp only at f0 f1
          have HEo := Lib.hid (entryE_any w2.heap.size ((cpE S :: opsE 0 S.ths) ++ (S.pks.take i).map pkE) (pkE (pa_, pb_)) [3, pa_, pb_] 3 (wr.alloc (.cells #[.int .i64 pa_, .int .i64 pb_] 47)) (Go.Lib.IsBuilderF.alloc hB.out _) (by have := hEl.out; rw [List.length_append, List.length_map, List.length_take]; omega) rfl (by decide) hfo (fun j hj => by
            match j, hj with
            | 0, _ => rfl
            | 1, _ => rfl
            | 2, _ => rfl
            | 3, _ => rfl
            | 4, _ => rfl
            | 5, _ => rfl
            | 6, _ => rfl
            | 7, _ => rfl))
          simp only [List.map_cons, List.map_nil, World.size_alloc] at HEo
          have hb9 := Lib.hid (hb.out.alloc hb.out.size (.cells #[.int .i64 pa_, .int .i64 pb_] 47))
          have i0 : (0 : Int) ≤ (i : Int) := by omega
          have i3 : (i : Int) < (np : Int) := by omega
          have hi1 := Lib.hid (show i + 1 ≤ np from hli)
          clear hel0 ho hoB k1 hfo hB hb hbwi
          go_wp2_with (go_at_call 45; refine HEo.out.mono ?_; rintro e w5 ⟨rfl, q1, q2⟩; rw [List.append_assoc, ← hE3.out] at q1; replace q1 := Lib.hid q1; have q3 := Lib.hid (hb9.out.trans q2); clear q2 HEo f0 f1)
          go_roundw
          case rel => exact ⟨i + 1, hi1.out, by go_num, q1, q3⟩
          case measure => have := hi1.out; simp [intOf]; omega
        · obtain rfl : i = np := by omega
          have hfin : IsB w2.heap.size w2.heap.size (Go.Lib.byteCells (encU (encS S))) wr := by
            have h := hB.out
            rw [List.take_of_length_le (by rw [hnp.out]; exact Nat.le_refl _)] at h
            rw [← hcells.out]
            exact h
          have HSt := Lib.hid (Tryd.Builder_String_any_f w2.heap.size w2.heap.size (encU (encS S)) wr hfin hb.out.size)
          clear hB hfin
          go_wp2_with (go_at_call 46; refine HSt.out.mono ?_; rintro e w6 ⟨rfl, _, q6⟩; have q7 := Lib.hid (hb00.out.trans ((hb.out.trans q6).mono hb00.out.size)); clear q6 HSt)
          go_ret2
          exact ⟨by rw [hbo.out]; rfl, q7.out⟩
end Go.Proofs.YtdpolejbceoldaaDoor
