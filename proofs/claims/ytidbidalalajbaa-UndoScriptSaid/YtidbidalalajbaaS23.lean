/-
  The reference's store: New, record, Get, was, Put, Del, All. No condition beside a store that can be read.
-/
import Derived.Test.YtidbidalalajbaaSameR
import Derived.Test.YtidbidalalajbaaSAll
import Derived.Test.YtidbidalalajbaaR2
namespace Go.Proofs.Ytidbidalalajbaa
open Go.RowKit
/-- The reference's store at p. -/
def rst (p : Nat) (a : Option Addr) (c : Nat) (L : Ent) (rs : List Res) : List Res := blk p 77 #[.slice a L.length c] :: vec 59 3 (.slice a L.length c) L.length (L.flatMap rowC) :: rs
theorem rnew_any (w : World) : Calls Try.prog 20 #[] w fun r w' => ∃ p, r = .returned (.pointer (some ⟨p, 0, none⟩)) ∧ Sep w' (rst p none 0 [] [old w]) := by
  have h0 := Lib.hid (((Sep.start w).alloc #[.slice none 0 0] 77).vec_nil 59 3).to1
  go_enter Try.func20, Try.ntmps20
  go_wp2_with fail
  go_ret
  exact ⟨_, rfl, h0⟩
theorem recR_any (t r : Int) (w : World) : Calls Try.prog 40 #[(.agg #[.int .i64 t, .int .i64 r])] w fun e w' => e = .returned (.bool (isRec (t, r))) ∧ Below w.heap.size w w' := by
  have hS := Lib.hid (box1 w t r)
  obtain ⟨z, c0, c1, _⟩ := hS.out.b2
  have HC := Lib.hid (fun W => checkR_any t r W)
  have HL := Lib.hid (fun W => levelR_any t r W)
  unfold isRec
  by_cases h : lv t r = -1
  · rw [h] at HC HL ⊢
    rw [if_pos rfl] at HC
    clear h
    go_enter Try.func40, Try.ntmps40
    go_wp2_with fail
    refine (HC.out _).mono ?_
    rintro e w1 ⟨rfl, b1⟩
    replace hS := Lib.hid (hS.out.below b1)
    clear b1
    go_wp2_with fail
    go_ret
    exact ⟨rfl, hS.out.tail.gold⟩
  · rw [if_neg h] at HC
    generalize lv t r = x at *
    clear h
    by_cases h2 : x = 2
    · subst h2
      go_enter Try.func40, Try.ntmps40
      go_wp2_with fail
      refine (HC.out _).mono ?_
      rintro e w1 ⟨rfl, b1⟩
      replace hS := Lib.hid (hS.out.below b1)
      clear b1 c0 c1
      obtain ⟨_, c0, c1, _⟩ := hS.out.b2
      go_wp2_with fail
      refine (HL.out _).mono ?_
      rintro e w2 ⟨rfl, b2⟩
      replace hS := Lib.hid (hS.out.below b2)
      clear b2
      go_wp2_with fail
      go_ret
      exact ⟨rfl, hS.out.tail.gold⟩
    · have e2 : (x == 2) = false := by rw [beq_eq_false_iff_ne]; exact h2
      go_enter Try.func40, Try.ntmps40
      go_wp2_with fail
      refine (HC.out _).mono ?_
      rintro e w1 ⟨rfl, b1⟩
      replace hS := Lib.hid (hS.out.below b1)
      clear b1 c0 c1
      obtain ⟨_, c0, c1, _⟩ := hS.out.b2
      go_wp2_with fail
      refine (HL.out _).mono ?_
      rintro e w2 ⟨rfl, b2⟩
      replace hS := Lib.hid (hS.out.below b2)
      clear b2
      go_wp2_with fail
      go_ret
      exact ⟨by rw [decide_eq_false h2]; rfl, hS.out.tail.gold⟩
theorem getL_at {L : Ent} {k : Nat} {n : Int × Int} {v : Int} (h : L[k]? = some (n, v)) (h0 : ∀ j, j < k → ∀ x, L[j]? = some x → x.1 ≠ n) : getL L n = some v := by
  have hf : L.find? (fun p => decide (p.1 = n)) = some (n, v) := by
    rw [List.find?_eq_some_iff_getElem]
    obtain ⟨hj1, hj2⟩ := List.getElem?_eq_some_iff.1 h
    refine ⟨by simp, k, hj1, hj2, fun i hi => ?_⟩
    simp
    exact h0 i hi L[i] (List.getElem?_eq_getElem (by omega))
  simp [getL, hf]
theorem getL_none {L : Ent} {n : Int × Int} (h0 : ∀ j, j < L.length → ∀ x, L[j]? = some x → x.1 ≠ n) : getL L n = none := by
  rw [getL_none_iff]
  cases hh : hasL L n with
  | false => rfl
  | true =>
    obtain ⟨p, hp, hpn⟩ := List.mem_map.1 (hasL_iff.1 hh)
    obtain ⟨j, hj, rfl⟩ := List.getElem_of_mem hp
    exact absurd hpn (h0 j hj _ (List.getElem?_eq_getElem hj))
set_option maxHeartbeats 4000000 in
theorem getR_any (p : Nat) (a : Option Addr) (c : Nat) (L : Ent) (t r : Int) (w : World) (rs : List Res) (hS : Sep w (rst p a c L rs)) (hn : L.length ≤ 1000) :
    Calls Try.prog 54 #[.pointer (some ⟨p, 0, none⟩), (.agg #[.int .i64 t, .int .i64 r])] w fun e w' => e = .returned (.tuple #[.int .i64 ((getL L (t, r)).getD 0), .bool (hasL L (t, r))]) ∧ Sep w' (rst p a c L rs) := by
  have hat := Lib.hid (fun k v h h0 => getL_at (L := L) (k := k) (n := (t, r)) (v := v) h h0)
  have hno := Lib.hid (fun h0 => getL_none (L := L) (n := (t, r)) h0)
  rw [← getL_isSome]
  generalize getL L (t, r) = R at *
  obtain ⟨n, hl⟩ : ∃ n, L.length = n := ⟨_, rfl⟩
  unfold rst at *
  rw [hl] at hS hn hno ⊢
  replace hl := Lib.hid hl
  have hB := Lib.hid (hS.alloc #[.int .i64 t, .int .i64 r] 28)
  clear hS
  generalize hgs : w.heap.size = g at *
  replace hgs := Lib.hid hgs
  obtain ⟨_, d0, d1, _⟩ := hB.out.b2
  obtain ⟨_, c0, _⟩ := hB.out.to1.b1
  go_enter Try.func54, Try.ntmps54
  go_wp2_with fail
  rw [hgs.out] at *
  go_loopg [6] n (fun gm s6 W => ∃ k : Nat, k ≤ n ∧ gm = n - k ∧ s6 = .int .i64 k ∧ Hid (∀ j, j < k → ∀ x, L[j]? = some x → x.1 ≠ (t, r)) ∧ Hid (Sep W (blk g 28 #[.int .i64 t, .int .i64 r] :: blk p 77 #[.slice a n c] :: vec 59 3 (.slice a n c) n (L.flatMap rowC) :: rs)))
  case atStart => exact ⟨0, Nat.zero_le _, rfl, rfl, Lib.hid (fun j h => absurd h (by omega)), hB⟩
  case round =>
    clear hB d0 d1 c0
    obtain ⟨k, hk, hgm, rfl, hlow, hB⟩ := hrel
    obtain ⟨_, d0, d1, _⟩ := hB.out.b2
    obtain ⟨_, c0, _⟩ := hB.out.to1.b1
    by_cases hlt : k < n
    · obtain ⟨b, off, rfl, hb, zz⟩ := row_cells hB.out.to2.vec_rl hl.out (by omega)
      obtain ⟨x, hx⟩ : ∃ x, L[k]? = some x := ⟨L[k]'(by rw [hl.out]; exact hlt), List.getElem?_eq_getElem _⟩
      obtain ⟨z0, z1, z2⟩ := zz k x hx
      simp only [← Nat.add_assoc, Nat.add_zero] at z0 z1 z2
      have i1 : (0 : Int) ≤ (k : Int) := by omega
      have i2 : (k : Int) < (n : Int) := by omega
      have hms := Lib.hid (show n - (k + 1) < n - k from Nat.sub_lt_sub_left hlt (Nat.lt_succ_self k))
      obtain ⟨⟨y, s⟩, u⟩ := x
      simp only at z0 z1 z2
      have hq := fun W => run_eql_name y t s r W
      have hiff := eqB_name_iff y t s r
      generalize eqB_name y t s r = bb at hiff hq
      have hat2 := Lib.hid (fun (h : (y, s) = (t, r)) => hat.out k u (by rw [hx, h]) hlow.out)
      have hlow2 := Lib.hid (fun (h : ¬ (y, s) = (t, r)) j (hj : j < k + 1) x (hx2 : L[j]? = some x) => show x.1 ≠ (t, r) from by
        rcases Nat.lt_or_ge j k with h1 | h1
        · exact hlow.out j h1 x hx2
        · obtain rfl : j = k := by omega
          rw [hx] at hx2
          obtain rfl := Option.some.inj hx2
          exact h)
      clear zz hx hat hno
      by_cases he : (y, s) = (t, r)
      · have hR := hat2.out he
        subst hR
        obtain ⟨rfl, rfl⟩ := Prod.mk.inj he
        obtain rfl : bb = true := hiff.trans (decide_eq_true ⟨rfl, rfl⟩)
        clear hiff hat2 hlow2 he
        go_wp2_with fail
        go_quiet (fail)
        go_wp2_with fail
        refine bodyPost_ret (v := .tuple #[.int .i64 u, .bool true]) (by simp [results, Try.results54, go_sem, *]) rfl ⟨rfl, ?_⟩
        exact (hB.out.drewN _).tail
      · have hlow3 := Lib.hid (hlow2.out he)
        obtain rfl : bb = false := hiff.trans (decide_eq_false fun e => he (by rw [e.1, e.2]))
        clear hiff hat2 hlow2
        replace he := Lib.hid he
        go_wp2_with fail
        go_quiet (fail)
        go_wp2_with fail
        go_roundg (n - (k + 1))
        case measure => first | exact hms.out | (rw [hgm]; exact hms.out)
        case rel => exact ⟨k + 1, by omega, rfl, by go_num, hlow3, Lib.hid (hB.out.drewN _)⟩
    · obtain rfl : k = n := by omega
      have hR := hno.out hlow.out
      subst hR
      clear hat hno
      go_wp2_with fail
      refine bodyPost_ret (v := .tuple #[.int .i64 0, .bool false]) (by simp [results, Try.results54, go_sem, *]) rfl ⟨rfl, hB.out.tail⟩
def eqvE2 (E E' : Ent) : Prop := ∀ k, getL E k = getL E' k
theorem eqv_perm {E E' : Ent} (h1 : NodupL E) (h2 : NodupL E') (h : eqvE2 E E') : E.Perm E' := by
  have n1 : E.Nodup := by unfold NodupL at h1; rw [List.Nodup, List.pairwise_map] at h1; exact h1.imp fun h e => h (by rw [e])
  have n2 : E'.Nodup := by unfold NodupL at h2; rw [List.Nodup, List.pairwise_map] at h2; exact h2.imp fun h e => h (by rw [e])
  refine (List.perm_ext_iff_of_nodup n1 n2).2 fun p => ?_
  rw [← getL_some_iff h1 (a := p.1) (v := p.2), ← getL_some_iff h2 (a := p.1) (v := p.2), h p.1]
theorem rwas_any (p : Nat) (a : Option Addr) (c : Nat) (L : Ent) (t r : Int) (w : World) (rs : List Res) (hS : Sep w (rst p a c L rs)) (hn : L.length ≤ 1000) :
    Calls Try.prog 41 #[.pointer (some ⟨p, 0, none⟩), (.agg #[.int .i64 t, .int .i64 r])] w fun e w' => e = .returned (wasV t r L) ∧ Sep w' (rst p a c L rs) := by
  have hB := Lib.hid (was_boxes w t r hS)
  have HG := Lib.hid (fun W rs h => getR_any p a c L t r W rs h hn)
  unfold wasV
  generalize hgv : (getL L (t, r)).getD 0 = gv at *
  generalize hgh : hasL L (t, r) = gh at *
  replace hgv := Lib.hid hgv
  replace hgh := Lib.hid hgh
  clear hS
  obtain ⟨_, d0, d1, _⟩ := hB.out.to1.b2
  unfold rst at *
  generalize hgs : w.heap.size = g at *
  replace hgs := Lib.hid hgs
  go_enter Try.func41, Try.ntmps41
  go_wp2_with fail
  rw [hgs.out] at *
  refine (HG.out _ _ hB.out.to3.to3).mono ?_
  rintro e w1 ⟨rfl, q⟩
  replace hB := Lib.hid q.to3.to3
  clear q HG d0 d1
  obtain ⟨_, e0, e1, e2, e3, f0, f1, f2, f3⟩ := hB.out.b4
  obtain ⟨_, d0, d1, _⟩ := hB.out.to1.b2
  have hZ := Lib.hid ((((hB.out.set 0 (.int .i64 t)).set 1 (.int .i64 r)).set 2 (.int .i64 gv)).set 3 (.bool gh))
  obtain ⟨_, y0, y1, y2, y3, _⟩ := (show Sep _ (blk (g + 1) 31 #[.int .i64 t, .int .i64 r, .int .i64 gv, .bool gh] :: _) from hZ.out).b4
  go_wp2_with fail
  refine bodyPost_ret (v := .agg #[.int .i64 t, .int .i64 r, .int .i64 gv, .bool gh]) (by simp [results, Try.results41, go_sem, *]) rfl ⟨rfl, ?_⟩
  exact hZ.out.tail.tail
/-! ### what Put does -/
def ltB (a b : Int × Int) : Bool := decide (a.1 < b.1 ∨ a.1 = b.1 ∧ a.2 < b.2)
def insR (n : Int × Int) (v : Int) : Ent → Bool → Ent
  | [], b => if b then [] else [(n, v)]
  | p :: L, b => if p.1 = n then insR n v L b else if b = false ∧ ltB n p.1 = true then (n, v) :: p :: insR n v L true else p :: insR n v L b
theorem insR_true (n : Int × Int) (v : Int) : ∀ L : Ent, insR n v L true = delL L n
  | [] => rfl
  | p :: L => by
    have ih := insR_true n v L
    unfold delL at *
    simp only [insR]
    by_cases h : p.1 = n
    · rw [if_pos h, ih]; simp [h]
    · rw [if_neg h, if_neg (by simp), ih]; simp [h]
theorem insR_perm (n : Int × Int) (v : Int) : ∀ L : Ent, (insR n v L false).Perm ((n, v) :: delL L n)
  | [] => List.Perm.refl _
  | p :: L => by
    have ih := insR_perm n v L
    simp only [insR]
    by_cases h : p.1 = n
    · rw [if_pos h]
      have e : delL (p :: L) n = delL L n := by simp [delL, h]
      rw [e]
      exact ih
    · have e : delL (p :: L) n = p :: delL L n := by simp [delL, h]
      rw [if_neg h, e]
      by_cases h2 : ltB n p.1 = true
      · rw [if_pos ⟨trivial, h2⟩, insR_true]
      · rw [if_neg (by simp [h2])]
        exact (ih.cons p).trans (List.Perm.swap _ _ _)
theorem mem_del {L : Ent} {n : Int × Int} {q : (Int × Int) × Int} (h : q ∈ delL L n) : q ∈ L := (List.mem_filter.1 h).1
theorem insR_pw (n : Int × Int) (v : Int) : ∀ L : Ent, L.Pairwise (fun a b => leN a.1 b.1) → (insR n v L false).Pairwise fun a b => leN a.1 b.1
  | [], _ => by simp [insR]
  | p :: L, h => by
    obtain ⟨h1, h2⟩ := List.pairwise_cons.1 h
    have ih := insR_pw n v L h2
    have hd : (delL L n).Pairwise fun a b => leN a.1 b.1 := h2.sublist List.filter_sublist
    simp only [insR]
    by_cases hn : p.1 = n
    · rw [if_pos hn]; exact ih
    · rw [if_neg hn]
      by_cases hl : ltB n p.1 = true
      · rw [if_pos ⟨trivial, hl⟩, insR_true]
        have hnp : leN n p.1 := by unfold ltB at hl; rw [decide_eq_true_eq] at hl; unfold leN; omega
        refine List.pairwise_cons.2 ⟨fun q hq => ?_, List.pairwise_cons.2 ⟨fun q hq => h1 q (mem_del hq), hd⟩⟩
        rcases List.mem_cons.1 hq with rfl | hq
        · exact hnp
        · have := h1 q (mem_del hq)
          simp only [leN] at *
          omega
      · rw [if_neg (by simp [hl])]
        refine List.pairwise_cons.2 ⟨fun q hq => ?_, ih⟩
        rcases List.mem_cons.1 ((insR_perm n v L).mem_iff.1 hq) with rfl | hq
        · have : ¬ (n.1 < p.1.1 ∨ n.1 = p.1.1 ∧ n.2 < p.1.2) := by simpa [ltB] using hl
          simp only [leN]
          omega
        · exact h1 q (mem_del hq)
theorem nodup_perm {A B : Ent} (h : NodupL A) (hp : A.Perm B) : NodupL B := by
  unfold NodupL at *
  exact (hp.map (·.1)).nodup_iff.1 h
theorem srtE_nodup {E : Ent} (h : NodupL E) : NodupL (srtE E) := nodup_perm h (srtE_perm E).symm
theorem perm_get {A B : Ent} (h : NodupL A) (hp : A.Perm B) : eqvE2 A B := fun k => by
  cases hb : getL B k with
  | none =>
    rw [getL_none_iff] at hb ⊢
    rw [← Bool.not_eq_true] at hb ⊢
    intro hh
    apply hb
    rw [hasL_iff] at hh ⊢
    exact (hp.map (·.1)).mem_iff.1 hh
  | some v =>
    rw [getL_some_iff (nodup_perm h hp)] at hb
    rw [getL_some_iff h]
    exact hp.mem_iff.2 hb
theorem srt_put {E : Ent} (h : NodupL E) (n : Int × Int) (v : Int) : insR n v (srtE E) false = srtE (putL E n v) := by
  have hn : NodupL (putL E n v) := h.put n v
  refine srtE_uniq hn ?_ (insR_pw n v _ (srtE_pw E))
  have h1 := insR_perm n v (srtE E)
  have hnd : NodupL (insR n v (srtE E) false) := by
    refine nodup_perm ?_ h1.symm
    have hd := (srtE_nodup h).del n
    unfold NodupL at *
    rw [List.map_cons, List.nodup_cons]
    refine ⟨fun hm => ?_, hd⟩
    have := hasL_iff.2 hm
    rw [hasL_delL] at this
    simp at this
  refine eqv_perm hnd hn fun k => ?_
  rw [perm_get hnd h1 k, getL_putL]
  have hc : getL ((n, v) :: delL (srtE E) n) k = if k = n then some v else getL (delL (srtE E) n) k := by
    by_cases hk : k = n
    · subst hk; simp [getL]
    · simp [getL, hk, Ne.symm hk]
  rw [hc, getL_delL, perm_get (srtE_nodup h) (srtE_perm E) k]
  by_cases hk : k = n <;> simp [hk]
theorem srt_del {E : Ent} (h : NodupL E) (n : Int × Int) : delL (srtE E) n = srtE (delL E n) := by
  refine srtE_uniq (h.del n) ((srtE_perm E).filter _) ((srtE_pw E).sublist List.filter_sublist)
theorem srt_get {E : Ent} (h : NodupL E) (n : Int × Int) : getL (srtE E) n = getL E n := perm_get (srtE_nodup h) (srtE_perm E) n
theorem srt_has {E : Ent} (h : NodupL E) (n : Int × Int) : hasL (srtE E) n = hasL E n := by rw [← getL_isSome, ← getL_isSome, srt_get h]
theorem insR_len (n : Int × Int) (v : Int) (L : Ent) : (insR n v L false).length ≤ L.length + 1 := by
  rw [(insR_perm n v L).length_eq, List.length_cons]
  have := List.length_filter_le (fun p : (Int × Int) × Int => !decide (p.1 = n)) L
  unfold delL
  omega
end Go.Proofs.Ytidbidalalajbaa
