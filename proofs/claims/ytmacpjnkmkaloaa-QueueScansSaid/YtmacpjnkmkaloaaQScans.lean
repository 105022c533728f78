/-
  The walk of QueueScans. No condition beside an argument that can be read.
-/
import Derived.Test.YtmacpjnkmkaloaaQLight
import Derived.Test.YtmacpjnkmkaloaaQScan
import Derived.Test.YtmacpjnkmkaloaaQRScan
import Derived.Test.YtmacpjnkmkaloaaQLeaveB
import Derived.Test.YtmacpjnkmkaloaaQSame
namespace Go.Proofs.Ytmacpjnkmkaloaa
open Go.RowKit
/-- A head's requests: where they lie, how many fit, what they are. -/
structure Hd where
  a : Option Addr
  c : Nat
  l : List Rq
  deriving Inhabited
def hcells (t r n : Int) (hs : List Hd) : List Value := hs.flatMap fun x => [.int .i64 t, .int .i64 r, .slice x.a x.l.length x.c, .int .i64 n]
theorem hcells_len (t r n : Int) (hs : List Hd) : (hcells t r n hs).length = hs.length * 4 := by
  induction hs with
  | nil => rfl
  | cons x l ih =>
    have : hcells t r n (x :: l) = [.int .i64 t, .int .i64 r, .slice x.a x.l.length x.c, .int .i64 n] ++ hcells t r n l := rfl
    rw [this, List.length_append, ih]
    simp
    omega
theorem hcells_at (t r n : Int) : ∀ (hs : List Hd) (j : Nat), j < hs.length → (hcells t r n hs)[j * 4]? = some (.int .i64 t) ∧ (hcells t r n hs)[j * 4 + 1]? = some (.int .i64 r) ∧ (hcells t r n hs)[j * 4 + 2]? = some (.slice (hs.getD j default).a (hs.getD j default).l.length (hs.getD j default).c) ∧ (hcells t r n hs)[j * 4 + 3]? = some (.int .i64 n)
  | [], j, h => absurd h (by simp)
  | x :: l, 0, _ => ⟨rfl, rfl, rfl, rfl⟩
  | x :: l, j + 1, h => by
    have ih := hcells_at t r n l j (by simpa using h)
    have e : hcells t r n (x :: l) = .int .i64 t :: .int .i64 r :: .slice x.a x.l.length x.c :: .int .i64 n :: hcells t r n l := rfl
    rw [e, show (j + 1) * 4 = j * 4 + 1 + 1 + 1 + 1 by omega]
    simpa [List.getD] using ih
/-- Heads that can be scanned. -/
def GoodH (w : World) (x : Hd) : Prop := RQ w (.slice x.a x.l.length x.c) x.l ∧ x.l.length ≤ 1000 ∧ Wants x.l ∧ IdsD x.l
theorem GoodH.below {w w' : World} {x : Hd} (h : GoodH w x) (hb : Below w.heap.size w w') : GoodH w' x := ⟨h.1.below hb, h.2⟩
theorem wants_erase (l : List Rq) (i : Nat) (h : Wants l) : Wants (l.eraseIdx i) := fun r hr ho => h r (List.mem_of_mem_eraseIdx hr) ho
theorem wants_calm (l : List Rq) (i : Nat) (hi : i < l.length) (h : Wants l) (hm : ((l.getD i default).mode != 0) = true) : Wants (calm l i) := by
  intro r hr ho
  unfold calm at hr
  rcases List.mem_or_eq_of_mem_set hr with h1 | h1
  · exact h r h1 ho
  · subst h1
    simp only [openB] at ho
    rw [bne_iff_ne] at hm
    simpa using hm
theorem getD_erase (l : List Rq) (i j : Nat) : (l.eraseIdx i).getD j default = if j < i then l.getD j default else l.getD (j + 1) default := by
  simp only [List.getD_eq_getElem?_getD, List.getElem?_eraseIdx]
  split <;> rfl
theorem idsD_erase (l : List Rq) (i : Nat) (hi : i < l.length) (h : IdsD l) : IdsD (l.eraseIdx i) := by
  intro j k hj hk he
  rw [List.length_eraseIdx_of_lt hi] at hj hk
  rw [getD_erase, getD_erase] at he
  split at he <;> split at he
  · exact h _ _ (by omega) (by omega) he
  · have := h _ _ (by omega) (by omega) he
    omega
  · have := h _ _ (by omega) (by omega) he
    omega
  · have := h _ _ (by omega) (by omega) he
    omega
theorem idsD_calm (l : List Rq) (i : Nat) (hi : i < l.length) (h : IdsD l) : IdsD (calm l i) := by
  have e : ∀ j, ((calm l i).getD j default).id = (l.getD j default).id := by
    intro j
    unfold calm
    by_cases hj : j = i
    · subst hj
      simp [List.getD_eq_getElem?_getD, hi]
    · simp only [List.getD_eq_getElem?_getD]
      rw [List.getElem?_set_ne (fun k => hj k.symm)]
  intro j k hj hk he
  rw [calm_len] at hj hk
  rw [e, e] at he
  exact h j k hj hk he
theorem idxF_hit (l : List Rq) (id0 : Int) : idxF (fun q => q.id == id0) l 0 = -1 ∨ ∃ i : Nat, idxF (fun q => q.id == id0) l 0 = (i : Int) ∧ i < l.length := by
  rcases idxF_bd (fun q : Rq => q.id == id0) l 0 with h | ⟨j, h1, h2, _⟩
  · exact .inl h
  · exact .inr ⟨j, by rw [h1]; simp, h2⟩
/-- Abandon of one that waits: a head that can be scanned. -/
theorem abandonR_wait (t r n : Int) (v : Value) (l : List Rq) (id0 : Int) (i : Nat) (w : World) (hv : RQ w v l) (hl : l.length ≤ 1000) (hi : idxF (fun q => q.id == id0) l 0 = i) (hil : i < l.length) (hs : 0 < (l.getD i default).since) (hw : Wants l) (hd : IdsD l) :
    Calls Try.prog 11 #[hval t r v n, .int .i64 id0] w fun e w' => ∃ a c lm, e = .returned (.tuple #[hval t r (.slice a lm.length c) n, .int .i64 0]) ∧ Sep w' [vq (.slice a lm.length c) lm, old w] ∧ lm.length ≤ l.length ∧ Wants lm ∧ IdsD lm := by
  cases hm : ((l.getD i default).mode != 0) with
  | false =>
    refine (abandonR_gone t r n v l id0 i w hv hl hi hil hs hm).mono ?_
    rintro e w1 ⟨a, c, he, hS⟩
    exact ⟨a, c, _, he, hS, by rw [List.length_eraseIdx_of_lt hil]; omega, wants_erase l i hw, idsD_erase l i hil hd⟩
  | true =>
    refine (abandonR_stay t r n v l id0 i w hv hl hi hil hs hm).mono ?_
    rintro e w1 ⟨a, c, he, hS⟩
    exact ⟨a, c, _, he, hS, by rw [calm_len]; omega, wants_calm l i hil hw hm, idsD_calm l i hil hd⟩
theorem scanN_len (f : Nat) : ∀ (l : List Rq) (ids : List Int), (scanN f l ids).1.length = l.length ∧ (scanN f l ids).2.length ≤ ids.length + f := by
  induction f with
  | zero => intro l ids; exact ⟨rfl, Nat.le_refl _⟩
  | succ f ih =>
    intro l ids
    simp only [scanN]
    split
    · exact ⟨rfl, by simp⟩
    · split
      · exact ⟨rfl, by simp⟩
      · have := ih (grant l (firstI l).toNat) (ids ++ [(l.getD (firstI l).toNat default).id])
        rw [grant_len, List.length_append] at this
        exact ⟨this.1, by have h2 := this.2; simp only [List.length_cons, List.length_nil] at h2; omega⟩
theorem src_of {w : World} {rs : List Res} (_h : Sep w rs) (cs : Array Value) (t : TypeId) (c : Nat) : SrcA (w.alloc (.cells cs t)) cs.size (.slice (some ⟨w.heap.size, 0, none⟩) 1 c) 1 cs.toList := SrcA.cells w cs t c
theorem info_head : (Try.prog.info? 26).map (fun i => (i.zero, i.size, i.bytes)) = some (some (.agg #[.int .i64 0, .int .i64 0, .slice none 0 0, .int .i64 0]), 4, 48) := by kernel_rfl
set_option maxHeartbeats 8000000 in
set_option maxRecDepth 100000 in
theorem scans_walk (t r n : Int) (a : Option Addr) (m c : Nat) (l : List Rq) (id0 : Int) (w : World) (hv : RQ w (.slice a m c) l) (hlm : l.length = m) :
    Calls Try.prog 3 #[.agg #[.int .i64 t, .int .i64 r, .slice a m c, .int .i64 n], .int .i64 id0] w fun e w' => e = .returned (.bool true) ∧ Below w.heap.size w w' := by
  subst hlm
  have hS := Lib.hid ((Sep.start w).alloc #[.int .i64 t, .int .i64 r, .slice a l.length c, .int .i64 n] 26)
  by_cases h12 : l.length ≤ 12
  · have e12 := decide_eq_true h12
    have hl : l.length ≤ 1000 := by omega
    have HC := Lib.hid (fun W (hb : Below w.heap.size w W) => checkR_any t r n (.slice a l.length c) l W (hv.below hb) hl)
    unfold hval at HC
    cases hc : checkB n l with
    | false =>
      rw [hc] at HC
      simp only [Bool.false_eq_true, if_false] at HC
      clear h12
      go_enter Try.func3, Try.ntmps3
      go_wp2_with fail
      refine (lives_any _).mono ?_
      rintro e w1 ⟨rfl, q⟩
      replace hS := Lib.hid (hS.out.below q)
      clear q
      obtain ⟨_, d0, d1, d2, d3, _⟩ := hS.out.b4
      go_wp2_with fail
      refine (light1_any w1.heap.size a l.length c _ (hS.out.alloc #[.int .i64 t, .int .i64 r, .slice a l.length c, .int .i64 n] 26).b4.2.2.2.1).mono ?_
      rintro e w2 ⟨rfl, rfl⟩
      replace hS := Lib.hid (hS.out.alloc #[.int .i64 t, .int .i64 r, .slice a l.length c, .int .i64 n] 26).tail
      clear d0 d1 d2 d3
      obtain ⟨_, d0, d1, d2, d3, _⟩ := hS.out.b4
      go_wp2_with fail
      refine (HC.out _ hS.out.tail.gold).mono ?_
      rintro e w3 ⟨rfl, q⟩
      replace hS := Lib.hid (hS.out.below q)
      clear q d0 d1 d2 d3 HC
      obtain ⟨_, d0, d1, d2, d3, _⟩ := hS.out.b4
      go_wp2_with fail
      go_ret
      exact ⟨rfl, hS.out.tail.gold⟩
    | true =>
      rw [hc] at HC
      simp only [if_true] at HC
      have hWa := checkB_wants n l hc
      have hDi := checkB_ids n l hc
      obtain ⟨i0, hi0, hz0, hz1, hz2⟩ := info_parts info_head
      clear h12
      rcases idxF_hit l id0 with hid | ⟨i, hid, hil⟩
      · have HL := Lib.hid (fun W (hb : Below w.heap.size w W) => leaveR_none t r n (.slice a l.length c) l id0 W (hv.below hb) hl hid)
        have HA := Lib.hid (fun W (hb : Below w.heap.size w W) => abandonR_none t r n (.slice a l.length c) l id0 W (hv.below hb) hl hid)
        unfold zhd hval at HL HA
        have hGo := Lib.hid (show GoodH w ⟨a, c, l⟩ from ⟨hv, hl, hWa, hDi⟩)
        clear hid hc hWa hDi
        go_enter Try.func3, Try.ntmps3
        go_wp2_with fail
        refine (lives_any _).mono ?_
        rintro e w1 ⟨rfl, q⟩
        replace hS := Lib.hid (hS.out.below q)
        clear q
        obtain ⟨_, d0, d1, d2, d3, _⟩ := hS.out.b4
        go_wp2_with fail
        refine (light1_any w1.heap.size a l.length c _ (hS.out.alloc #[.int .i64 t, .int .i64 r, .slice a l.length c, .int .i64 n] 26).b4.2.2.2.1).mono ?_
        rintro e w2 ⟨rfl, rfl⟩
        replace hS := Lib.hid (hS.out.alloc #[.int .i64 t, .int .i64 r, .slice a l.length c, .int .i64 n] 26).tail
        clear d0 d1 d2 d3
        obtain ⟨_, d0, d1, d2, d3, _⟩ := hS.out.b4
        go_wp2_with fail
        refine (HC.out _ hS.out.tail.gold).mono ?_
        rintro e w3 ⟨rfl, q⟩
        replace hS := Lib.hid (hS.out.below q)
        clear q d0 d1 d2 d3 HC
        obtain ⟨_, d0, d1, d2, d3, _⟩ := hS.out.b4
        go_wp2_with fail
        refine (HL.out _ hS.out.tail.gold).mono ?_
        rintro e w4 ⟨rfl, q⟩
        replace hS := Lib.hid ((hS.out.below q).alloc #[.int .i64 0, .int .i64 0, .slice none 0 0, .int .i64 0] 26)
        clear q HL d0 d1 d2 d3
        obtain ⟨_, d0, d1, d2, d3, _⟩ := hS.out.to1.b4
        go_wp2_with fail
        refine (HA.out _ hS.out.tail.tail.gold).mono ?_
        rintro e w5 ⟨rfl, q⟩
        replace hS := Lib.hid ((hS.out.below q).alloc #[.int .i64 0, .int .i64 0, .slice none 0 0, .int .i64 0] 26)
        clear q HA d0 d1 d2 d3
        obtain ⟨_, d0, d1, d2, d3, _⟩ := hS.out.to2.b4
        have hS9 := hS.out.alloc #[.int .i64 t, .int .i64 r, .slice a l.length c, .int .i64 n] 26
        rw [World.size_alloc] at hS9
        replace hS := Lib.hid (Sep.blk_vec (size := 4) (n := 1) (c := 1) (xs := hcells t r n [⟨a, c, l⟩]) hS9 rfl (by omega) (by simp only [maxLen]; omega) rfl rfl)
        clear hS9
        obtain ⟨hs, hhs⟩ : ∃ hs : List Hd, Hid (hs = [⟨a, c, l⟩]) := ⟨_, rfl⟩
        have hV := Lib.hid (show Sep ((w5.alloc (.cells #[.int .i64 0, .int .i64 0, .slice none 0 0, .int .i64 0] 26)).alloc (.cells #[.int .i64 t, .int .i64 r, .slice a l.length c, .int .i64 n] 26)) (vec 26 4 (.slice (some ⟨w5.heap.size + 1, 0, none⟩) 1 1) 1 (hcells t r n hs) :: _) from by rw [hhs.out]; exact hS.out)
        have hN := Lib.hid (show hs.length = 1 by rw [hhs.out]; rfl)
        have hG := Lib.hid (show ∀ k, k < 1 → GoodH ((w5.alloc (.cells #[.int .i64 0, .int .i64 0, .slice none 0 0, .int .i64 0] 26)).alloc (.cells #[.int .i64 t, .int .i64 r, .slice a l.length c, .int .i64 n] 26)) (hs.getD k default) from by
          rw [hhs.out]
          intro k hk
          obtain rfl : k = 0 := by omega
          exact hGo.out.below hS.out.tail.tail.tail.tail.gold)
        have hO := Lib.hid (hS.out.tail.tail.tail.tail.gold)
        clear hS hhs
        go_wp2_with fail
        go_loopw [10] (fun i wr => ∃ k : Nat, k ≤ 1 ∧ i = .int .i64 k ∧ Hid (Below ((w5.alloc (.cells #[.int .i64 0, .int .i64 0, .slice none 0 0, .int .i64 0] 26)).alloc (.cells #[.int .i64 t, .int .i64 r, .slice a l.length c, .int .i64 n] 26)).heap.size ((w5.alloc (.cells #[.int .i64 0, .int .i64 0, .slice none 0 0, .int .i64 0] 26)).alloc (.cells #[.int .i64 t, .int .i64 r, .slice a l.length c, .int .i64 n] 26)) wr)) (fun i _ => 1 - (intOf i).toNat)
        case atStart => exact ⟨0, by omega, rfl, Below.refl _ _⟩
        case round =>
          obtain ⟨k, hk, rfl, hb⟩ := hrel
          by_cases hlt : k < 1
          · obtain ⟨x0, x1, x2, x3⟩ := hcells_at t r n hs k (by rw [hN.out]; exact hlt)
            have hV2 := hV.out
            have y0 := hV2.vec_cell x0
            have y1 := hV2.vec_cell x1
            have y2 := hV2.vec_cell x2
            have y3 := hV2.vec_cell x3
            clear x0 x1 x2 x3 hV2
            have z0 := (hb.out.cell (p := ⟨w5.heap.size + 1, k * 4, none⟩) y0.2.2).trans y0.1
            have z1 := (hb.out.cell (p := ⟨w5.heap.size + 1, k * 4 + 1, none⟩) y0.2.2).trans y1.1
            have z2 := (hb.out.cell (p := ⟨w5.heap.size + 1, k * 4 + 2, none⟩) y0.2.2).trans y2.1
            have z3 := (hb.out.cell (p := ⟨w5.heap.size + 1, k * 4 + 3, none⟩) y0.2.2).trans y3.1
            have hgl := Nat.lt_of_lt_of_le y0.2.2 hb.out.size
            clear y0 y1 y2 y3
            obtain ⟨hR, hl1, hW1, hD1⟩ := (hG.out k hlt).below hb.out
            generalize hs.getD k default = x at *
            obtain ⟨xa, xc, xl⟩ := x
            simp only at z2 hR hl1 hW1 hD1
            have i1 : (0 : Int) ≤ (k : Int) := by omega
            have i2 : (k : Int) < 1 := by omega
            obtain ⟨XL, XI, hLI⟩ : ∃ XL XI, Hid (scanN (opens xl) xl [] = (XL, XI)) := ⟨_, _, rfl⟩
            have hb1 := Lib.hid (show XL.length ≤ 1000 by have := (scanN_len (opens xl) xl []).1; rw [hLI.out] at this; simp only at this; omega)
            have hb2 := Lib.hid (show XI.length ≤ 1000 by have := (scanN_len (opens xl) xl []).2; rw [hLI.out] at this; have h3 := opens_le xl; simp at this; omega)
            have HO := Lib.hid (ownHead_any t r n (.slice xa xl.length xc) xl wr hR hl1)
            have HR := Lib.hid (fun W hb => scanR_any t r n (.slice xa xl.length xc) xl W (hR.below hb) hl1 hW1 hD1)
            replace hl1 := Lib.hid hl1
            replace hW1 := Lib.hid hW1
            clear hR hD1
            unfold hval at HO HR
            rw [hLI.out] at HR
            simp only at HR
            go_wp2_with fail
            refine HO.out.mono ?_
            rintro e v1 ⟨a1', c1', rfl, q⟩
            have HSc := Lib.hid (scan_any t r n (.slice a1' xl.length c1') xl v1 q.vq_rq hl1.out hW1.out)
            have b1 := Lib.hid q.tail.gold
            unfold hval at HSc
            rw [hLI.out] at HSc
            simp only at HSc
            clear q HO hLI
            go_wp2_with fail
            refine HSc.out.mono ?_
            rintro e v2 ⟨a2', c2', b2', d2', rfl, q⟩
            have R2 := Lib.hid q.vq_rq
            have I2 := Lib.hid q.to1.vec_ri
            have hS := Lib.hid ((((Sep.start wr).below b1.out).below q.tail.tail.gold).alloc #[.int .i64 t, .int .i64 r, .slice a2' XL.length c2', .int .i64 n] 26)
            have hT := Lib.hid ((Sep.start v2).allocG (.cells #[.int .i64 t, .int .i64 r, .slice a2' XL.length c2', .int .i64 n] 26))
            clear q HSc b1
            replace z0 := (hS.out.tail.gold.cell (p := ⟨w5.heap.size + 1, k * 4, none⟩) hgl).trans z0
            replace z1 := (hS.out.tail.gold.cell (p := ⟨w5.heap.size + 1, k * 4 + 1, none⟩) hgl).trans z1
            replace z2 := (hS.out.tail.gold.cell (p := ⟨w5.heap.size + 1, k * 4 + 2, none⟩) hgl).trans z2
            replace z3 := (hS.out.tail.gold.cell (p := ⟨w5.heap.size + 1, k * 4 + 3, none⟩) hgl).trans z3
            go_wp2_with fail
            refine (HR.out _ hS.out.tail.gold).mono ?_
            rintro e v3 ⟨a3', c3', b3', d3', rfl, q⟩
            clear z0 z1 z2 z3 HR
            have R3 := Lib.hid q.vq_rq
            have I3 := Lib.hid q.to1.vec_ri
            replace hS := Lib.hid ((hS.out.below q.tail.tail.gold).alloc #[.int .i64 t, .int .i64 r, .slice a3' XL.length c3', .int .i64 n] 26)
            replace hT := Lib.hid ((hT.out.below q.tail.tail.gold).allocG (.cells #[.int .i64 t, .int .i64 r, .slice a3' XL.length c3', .int .i64 n] 26))
            have hU := Lib.hid ((Sep.start v3).allocG (.cells #[.int .i64 t, .int .i64 r, .slice a3' XL.length c3', .int .i64 n] 26))
            clear q
            obtain ⟨_, d0, d1, d2, d3, _⟩ := hS.out.b4
            obtain ⟨_, f0, f1, f2, f3, _⟩ := hS.out.to1.b4
            have HQ := Lib.hid (fun W hb => sameR_true t r n (.slice a2' XL.length c2') (.slice a3' XL.length c3') XL W ((R2.out.below hT.out.gold).below hb) ((R3.out.below hU.out.gold).below hb) hb1.out)
            unfold hval at HQ
            go_wp2_with fail
            refine (HQ.out _ (Below.refl _ _)).mono ?_
            rintro e v4 ⟨rfl, q⟩
            replace hS := Lib.hid (hS.out.below q)
            replace hT := Lib.hid (hT.out.below q)
            replace hU := Lib.hid (hU.out.below q)
            clear q HQ d0 d1 d2 d3 f0 f1 f2 f3
            go_wp2_with fail
            refine (same_true _ _ XI _ hb2.out (I2.out.below hT.out.gold) (I3.out.below hU.out.gold)).mono ?_
            rintro e v5 ⟨rfl, mm, rfl⟩
            replace hS := Lib.hid (hS.out.drewN mm)
            clear hT hU R2 R3 I2 I3
            go_wp2_with fail
            go_roundw
            case rel => exact ⟨k + 1, by omega, by go_num, belT hb.out hS.out.tail.tail.gold⟩
            case measure => simp [intOf]; omega
          · go_wp2_with fail
            go_ret
            exact ⟨rfl, belT hO.out hb.out⟩
      · obtain ⟨l1, hl1e⟩ : ∃ l1, Hid (l.eraseIdx i = l1) := ⟨_, rfl⟩
        have HL := Lib.hid (fun W (hb : Below w.heap.size w W) => leaveR_some t r n (.slice a l.length c) l id0 i W (hv.below hb) hl hid hil)
        rw [hl1e.out] at HL
        unfold hval at HL
        have hGo := Lib.hid (show GoodH w ⟨a, c, l⟩ from ⟨hv, hl, hWa, hDi⟩)
        have hG1 := Lib.hid (show l1.length ≤ 1000 ∧ Wants l1 ∧ IdsD l1 from by rw [← hl1e.out]; exact ⟨by rw [List.length_eraseIdx_of_lt hil]; omega, wants_erase l i hWa, idsD_erase l i hil hDi⟩)
        by_cases hsn : (l.getD i default).since ≤ 0
        · have HA := Lib.hid (fun W (hb : Below w.heap.size w W) => abandonR_calm t r n (.slice a l.length c) l id0 i W (hv.below hb) hl hid hil hsn)
          unfold zhd hval at HA
          clear hid hc hWa hDi hsn hl1e
          go_enter Try.func3, Try.ntmps3
          go_wp2_with fail
          refine (lives_any _).mono ?_
          rintro e w1 ⟨rfl, q⟩
          replace hS := Lib.hid (hS.out.below q)
          clear q
          obtain ⟨_, d0, d1, d2, d3, _⟩ := hS.out.b4
          go_wp2_with fail
          refine (light1_any w1.heap.size a l.length c _ (hS.out.alloc #[.int .i64 t, .int .i64 r, .slice a l.length c, .int .i64 n] 26).b4.2.2.2.1).mono ?_
          rintro e w2 ⟨rfl, rfl⟩
          replace hS := Lib.hid (hS.out.alloc #[.int .i64 t, .int .i64 r, .slice a l.length c, .int .i64 n] 26).tail
          clear d0 d1 d2 d3
          obtain ⟨_, d0, d1, d2, d3, _⟩ := hS.out.b4
          go_wp2_with fail
          refine (HC.out _ hS.out.tail.gold).mono ?_
          rintro e w3 ⟨rfl, q⟩
          replace hS := Lib.hid (hS.out.below q)
          clear q d0 d1 d2 d3 HC
          obtain ⟨_, d0, d1, d2, d3, _⟩ := hS.out.b4
          go_wp2_with fail
          refine (HL.out _ hS.out.tail.gold).mono ?_
          rintro e w4 ⟨a1, c1, rfl, q⟩
          replace hS := Lib.hid ((q.graft hS.out).alloc #[.int .i64 t, .int .i64 r, .slice a1 l1.length c1, .int .i64 n] 26)
          clear q HL d0 d1 d2 d3
          obtain ⟨_, d0, d1, d2, d3, _⟩ := hS.out.to2.b4
          go_wp2_with fail
          refine (HA.out _ hS.out.tail.tail.tail.gold).mono ?_
          rintro e w5 ⟨rfl, q⟩
          replace hS := Lib.hid ((hS.out.below q).alloc #[.int .i64 0, .int .i64 0, .slice none 0 0, .int .i64 0] 26)
          clear q HA d0 d1 d2 d3
          obtain ⟨_, d0, d1, d2, d3, _⟩ := hS.out.to3.b4
          have hS9 := hS.out.alloc #[.int .i64 t, .int .i64 r, .slice a l.length c, .int .i64 n] 26
          rw [World.size_alloc] at hS9
          replace hS := Lib.hid (Sep.blk_vec (size := 4) (n := 1) (c := 1) (xs := hcells t r n [⟨a, c, l⟩]) hS9 rfl (by omega) (by simp only [maxLen]; omega) rfl rfl)
          clear hS9
          obtain ⟨_, f0, f1, f2, f3, _⟩ := hS.out.to2.b4
          have h1c : Hid (∀ u ∈ (#[.int .i64 t, .int .i64 r, .slice a1 l1.length c1, .int .i64 n] : Array Value).toList, u.oneCell' = true) := Lib.hid (by simp [Value.oneCell'])
          have hsrc := src_of hS.out #[.int .i64 t, .int .i64 r, .slice a1 l1.length c1, .int .i64 n] 26 1
          try rw [World.size_alloc, World.size_alloc] at hsrc
          replace hsrc := Lib.hid hsrc
          go_wp2_with (at_builtin; refine wpList_append_sep (hS.out.allocG _) rfl _ _ 29 rfl i0 _ 48 Try.underlying29 hi0 hz0 hz1 hz2 rfl (by decide) rfl 1 _ hsrc.out h1c.out ?c3 ?c4 ?_)
          case c3 => simp only [maxLen]; omega
          try (case c4 => omega)
          intro ha6 hc6 w6 q
          replace hS := Lib.hid q
          clear h1c q hsrc
          obtain ⟨hs, hhs⟩ : ∃ hs : List Hd, Hid (hs = [⟨a, c, l⟩, ⟨a1, c1, l1⟩]) := ⟨_, rfl⟩
          have hV := Lib.hid (show Sep w6 (vec 26 4 (.slice ha6 2 hc6) 2 (hcells t r n hs) :: _) from by rw [hhs.out]; exact hS.out)
          have hN := Lib.hid (show hs.length = 2 by rw [hhs.out]; rfl)
          have hG := Lib.hid (show ∀ k, k < 2 → GoodH w6 (hs.getD k default) from by
            rw [hhs.out]
            intro k hk
            have hk2 : k = 0 ∨ k = 1 := by omega
            rcases hk2 with rfl | rfl
            · exact hGo.out.below hS.out.tail.tail.tail.tail.tail.gold
            · exact ⟨hS.out.to3.vq_rq, hG1.out⟩)
          have hO := Lib.hid (hS.out.tail.tail.tail.tail.tail.gold)
          clear hS hhs
          go_wp2_with fail
          go_loopw [10] (fun i wr => ∃ k : Nat, k ≤ 2 ∧ i = .int .i64 k ∧ Hid (Below w6.heap.size w6 wr)) (fun i _ => 2 - (intOf i).toNat)
          case atStart => exact ⟨0, by omega, rfl, Below.refl _ _⟩
          case round =>
            obtain ⟨k, hk, rfl, hb⟩ := hrel
            by_cases hlt : k < 2
            · obtain ⟨x0, x1, x2, x3⟩ := hcells_at t r n hs k (by rw [hN.out]; exact hlt)
              obtain ⟨g, hga⟩ : ∃ g, ha6 = some ⟨g, 0, none⟩ := by
                rcases hV.out.gvec.2 with ⟨_, h1⟩ | ⟨g, cap, cur, hv, _⟩
                · omega
                · injection hv with e1 _ e3
                  exact ⟨g, e1⟩
              subst hga
              have hV2 := hV.out
              have y0 := hV2.vec_cell x0
              have y1 := hV2.vec_cell x1
              have y2 := hV2.vec_cell x2
              have y3 := hV2.vec_cell x3
              clear x0 x1 x2 x3 hV2
              have z0 := (hb.out.cell (p := ⟨g, k * 4, none⟩) y0.2.2).trans y0.1
              have z1 := (hb.out.cell (p := ⟨g, k * 4 + 1, none⟩) y0.2.2).trans y1.1
              have z2 := (hb.out.cell (p := ⟨g, k * 4 + 2, none⟩) y0.2.2).trans y2.1
              have z3 := (hb.out.cell (p := ⟨g, k * 4 + 3, none⟩) y0.2.2).trans y3.1
              have hgl := Nat.lt_of_lt_of_le y0.2.2 hb.out.size
              clear y0 y1 y2 y3
              obtain ⟨hR, hl1, hW1, hD1⟩ := (hG.out k hlt).below hb.out
              generalize hs.getD k default = x at *
              obtain ⟨xa, xc, xl⟩ := x
              simp only at z2 hR hl1 hW1 hD1
              have i1 : (0 : Int) ≤ (k : Int) := by omega
              have i2 : (k : Int) < 2 := by omega
              obtain ⟨XL, XI, hLI⟩ : ∃ XL XI, Hid (scanN (opens xl) xl [] = (XL, XI)) := ⟨_, _, rfl⟩
              have hb1 := Lib.hid (show XL.length ≤ 1000 by have := (scanN_len (opens xl) xl []).1; rw [hLI.out] at this; simp only at this; omega)
              have hb2 := Lib.hid (show XI.length ≤ 1000 by have := (scanN_len (opens xl) xl []).2; rw [hLI.out] at this; have h3 := opens_le xl; simp at this; omega)
              have HO := Lib.hid (ownHead_any t r n (.slice xa xl.length xc) xl wr hR hl1)
              have HR := Lib.hid (fun W hb => scanR_any t r n (.slice xa xl.length xc) xl W (hR.below hb) hl1 hW1 hD1)
              replace hl1 := Lib.hid hl1
              replace hW1 := Lib.hid hW1
              clear hR hD1
              unfold hval at HO HR
              rw [hLI.out] at HR
              simp only at HR
              go_wp2_with fail
              refine HO.out.mono ?_
              rintro e v1 ⟨a1', c1', rfl, q⟩
              have HSc := Lib.hid (scan_any t r n (.slice a1' xl.length c1') xl v1 q.vq_rq hl1.out hW1.out)
              have b1 := Lib.hid q.tail.gold
              unfold hval at HSc
              rw [hLI.out] at HSc
              simp only at HSc
              clear q HO hLI
              go_wp2_with fail
              refine HSc.out.mono ?_
              rintro e v2 ⟨a2', c2', b2', d2', rfl, q⟩
              have R2 := Lib.hid q.vq_rq
              have I2 := Lib.hid q.to1.vec_ri
              have hS := Lib.hid ((((Sep.start wr).below b1.out).below q.tail.tail.gold).alloc #[.int .i64 t, .int .i64 r, .slice a2' XL.length c2', .int .i64 n] 26)
              have hT := Lib.hid ((Sep.start v2).allocG (.cells #[.int .i64 t, .int .i64 r, .slice a2' XL.length c2', .int .i64 n] 26))
              clear q HSc b1
              replace z0 := (hS.out.tail.gold.cell (p := ⟨g, k * 4, none⟩) hgl).trans z0
              replace z1 := (hS.out.tail.gold.cell (p := ⟨g, k * 4 + 1, none⟩) hgl).trans z1
              replace z2 := (hS.out.tail.gold.cell (p := ⟨g, k * 4 + 2, none⟩) hgl).trans z2
              replace z3 := (hS.out.tail.gold.cell (p := ⟨g, k * 4 + 3, none⟩) hgl).trans z3
              go_wp2_with fail
              refine (HR.out _ hS.out.tail.gold).mono ?_
              rintro e v3 ⟨a3', c3', b3', d3', rfl, q⟩
              clear z0 z1 z2 z3 HR
              have R3 := Lib.hid q.vq_rq
              have I3 := Lib.hid q.to1.vec_ri
              replace hS := Lib.hid ((hS.out.below q.tail.tail.gold).alloc #[.int .i64 t, .int .i64 r, .slice a3' XL.length c3', .int .i64 n] 26)
              replace hT := Lib.hid ((hT.out.below q.tail.tail.gold).allocG (.cells #[.int .i64 t, .int .i64 r, .slice a3' XL.length c3', .int .i64 n] 26))
              have hU := Lib.hid ((Sep.start v3).allocG (.cells #[.int .i64 t, .int .i64 r, .slice a3' XL.length c3', .int .i64 n] 26))
              clear q
              obtain ⟨_, d0, d1, d2, d3, _⟩ := hS.out.b4
              obtain ⟨_, f0, f1, f2, f3, _⟩ := hS.out.to1.b4
              have HQ := Lib.hid (fun W hb => sameR_true t r n (.slice a2' XL.length c2') (.slice a3' XL.length c3') XL W ((R2.out.below hT.out.gold).below hb) ((R3.out.below hU.out.gold).below hb) hb1.out)
              unfold hval at HQ
              go_wp2_with fail
              refine (HQ.out _ (Below.refl _ _)).mono ?_
              rintro e v4 ⟨rfl, q⟩
              replace hS := Lib.hid (hS.out.below q)
              replace hT := Lib.hid (hT.out.below q)
              replace hU := Lib.hid (hU.out.below q)
              clear q HQ d0 d1 d2 d3 f0 f1 f2 f3
              go_wp2_with fail
              refine (same_true _ _ XI _ hb2.out (I2.out.below hT.out.gold) (I3.out.below hU.out.gold)).mono ?_
              rintro e v5 ⟨rfl, mm, rfl⟩
              replace hS := Lib.hid (hS.out.drewN mm)
              clear hT hU R2 R3 I2 I3
              go_wp2_with fail
              go_roundw
              case rel => exact ⟨k + 1, by omega, by go_num, belT hb.out hS.out.tail.tail.gold⟩
              case measure => simp [intOf]; omega
            · go_wp2_with fail
              go_ret
              exact ⟨rfl, belT hO.out hb.out⟩
        · have HA := Lib.hid (fun W (hb : Below w.heap.size w W) => abandonR_wait t r n (.slice a l.length c) l id0 i W (hv.below hb) hl hid hil (by omega) hWa hDi)
          unfold hval at HA
          clear hid hc hWa hDi hsn hl1e
          go_enter Try.func3, Try.ntmps3
          go_wp2_with fail
          refine (lives_any _).mono ?_
          rintro e w1 ⟨rfl, q⟩
          replace hS := Lib.hid (hS.out.below q)
          clear q
          obtain ⟨_, d0, d1, d2, d3, _⟩ := hS.out.b4
          go_wp2_with fail
          refine (light1_any w1.heap.size a l.length c _ (hS.out.alloc #[.int .i64 t, .int .i64 r, .slice a l.length c, .int .i64 n] 26).b4.2.2.2.1).mono ?_
          rintro e w2 ⟨rfl, rfl⟩
          replace hS := Lib.hid (hS.out.alloc #[.int .i64 t, .int .i64 r, .slice a l.length c, .int .i64 n] 26).tail
          clear d0 d1 d2 d3
          obtain ⟨_, d0, d1, d2, d3, _⟩ := hS.out.b4
          go_wp2_with fail
          refine (HC.out _ hS.out.tail.gold).mono ?_
          rintro e w3 ⟨rfl, q⟩
          replace hS := Lib.hid (hS.out.below q)
          clear q d0 d1 d2 d3 HC
          obtain ⟨_, d0, d1, d2, d3, _⟩ := hS.out.b4
          go_wp2_with fail
          refine (HL.out _ hS.out.tail.gold).mono ?_
          rintro e w4 ⟨a1, c1, rfl, q⟩
          replace hS := Lib.hid ((q.graft hS.out).alloc #[.int .i64 t, .int .i64 r, .slice a1 l1.length c1, .int .i64 n] 26)
          clear q HL d0 d1 d2 d3
          obtain ⟨_, d0, d1, d2, d3, _⟩ := hS.out.to2.b4
          go_wp2_with fail
          refine (HA.out _ hS.out.tail.tail.tail.gold).mono ?_
          rintro e w5 ⟨a2, c2, l2, rfl, q, hz, hG2⟩
          replace hG2 := Lib.hid (show l2.length ≤ 1000 ∧ Wants l2 ∧ IdsD l2 from ⟨by omega, hG2⟩)
          replace hS := Lib.hid ((q.graft hS.out).alloc #[.int .i64 t, .int .i64 r, .slice a2 l2.length c2, .int .i64 n] 26)
          clear q hz HA d0 d1 d2 d3
          obtain ⟨_, d0, d1, d2, d3, _⟩ := hS.out.to4.b4
          have hS9 := hS.out.alloc #[.int .i64 t, .int .i64 r, .slice a l.length c, .int .i64 n] 26
          rw [World.size_alloc] at hS9
          replace hS := Lib.hid (Sep.blk_vec (size := 4) (n := 1) (c := 1) (xs := hcells t r n [⟨a, c, l⟩]) hS9 rfl (by omega) (by simp only [maxLen]; omega) rfl rfl)
          clear hS9
          obtain ⟨_, f0, f1, f2, f3, _⟩ := hS.out.to3.b4
          have h1c : Hid (∀ u ∈ (#[.int .i64 t, .int .i64 r, .slice a1 l1.length c1, .int .i64 n] : Array Value).toList, u.oneCell' = true) := Lib.hid (by simp [Value.oneCell'])
          have hsrc := src_of hS.out #[.int .i64 t, .int .i64 r, .slice a1 l1.length c1, .int .i64 n] 26 1
          try rw [World.size_alloc, World.size_alloc] at hsrc
          replace hsrc := Lib.hid hsrc
          go_wp2_with (at_builtin; refine wpList_append_sep (hS.out.allocG _) rfl _ _ 29 rfl i0 _ 48 Try.underlying29 hi0 hz0 hz1 hz2 rfl (by decide) rfl 1 _ hsrc.out h1c.out ?c3 ?c4 ?_)
          case c3 => simp only [maxLen]; omega
          try (case c4 => omega)
          intro ha6 hc6 w6 q
          replace hS := Lib.hid q
          clear h1c q hsrc
          clear d0 d1 d2 d3 f0 f1 f2 f3
          obtain ⟨_, f0, f1, f2, f3, _⟩ := hS.out.to1.b4
          have h1c : Hid (∀ u ∈ (#[.int .i64 t, .int .i64 r, .slice a2 l2.length c2, .int .i64 n] : Array Value).toList, u.oneCell' = true) := Lib.hid (by simp [Value.oneCell'])
          have hsrc := src_of hS.out #[.int .i64 t, .int .i64 r, .slice a2 l2.length c2, .int .i64 n] 26 1
          try rw [World.size_alloc, World.size_alloc] at hsrc
          replace hsrc := Lib.hid hsrc
          go_wp2_with (at_builtin; refine wpList_append_sep (hS.out.allocG _) rfl _ _ 29 rfl i0 _ 48 Try.underlying29 hi0 hz0 hz1 hz2 rfl (by decide) rfl 1 _ hsrc.out h1c.out ?c3 ?c4 ?_)
          case c3 => simp only [maxLen]; omega
          try (case c4 => omega)
          intro ha7 hc7 w7 q
          replace hS := Lib.hid q
          clear h1c q hsrc
          obtain ⟨hs, hhs⟩ : ∃ hs : List Hd, Hid (hs = [⟨a, c, l⟩, ⟨a1, c1, l1⟩, ⟨a2, c2, l2⟩]) := ⟨_, rfl⟩
          have hV := Lib.hid (show Sep w7 (vec 26 4 (.slice ha7 3 hc7) 3 (hcells t r n hs) :: _) from by rw [hhs.out]; exact hS.out)
          have hN := Lib.hid (show hs.length = 3 by rw [hhs.out]; rfl)
          have hG := Lib.hid (show ∀ k, k < 3 → GoodH w7 (hs.getD k default) from by
            rw [hhs.out]
            intro k hk
            have hk2 : k = 0 ∨ k = 1 ∨ k = 2 := by omega
            rcases hk2 with rfl | rfl | rfl
            · exact hGo.out.below hS.out.tail.tail.tail.tail.tail.tail.gold
            · exact ⟨hS.out.to4.vq_rq, hG1.out⟩
            · exact ⟨hS.out.to2.vq_rq, hG2.out⟩)
          have hO := Lib.hid (hS.out.tail.tail.tail.tail.tail.tail.gold)
          clear hS hhs
          go_wp2_with fail
          go_loopw [10] (fun i wr => ∃ k : Nat, k ≤ 3 ∧ i = .int .i64 k ∧ Hid (Below w7.heap.size w7 wr)) (fun i _ => 3 - (intOf i).toNat)
          case atStart => exact ⟨0, by omega, rfl, Below.refl _ _⟩
          case round =>
            obtain ⟨k, hk, rfl, hb⟩ := hrel
            by_cases hlt : k < 3
            · obtain ⟨x0, x1, x2, x3⟩ := hcells_at t r n hs k (by rw [hN.out]; exact hlt)
              obtain ⟨g, hga⟩ : ∃ g, ha7 = some ⟨g, 0, none⟩ := by
                rcases hV.out.gvec.2 with ⟨_, h1⟩ | ⟨g, cap, cur, hv, _⟩
                · omega
                · injection hv with e1 _ e3
                  exact ⟨g, e1⟩
              subst hga
              have hV2 := hV.out
              have y0 := hV2.vec_cell x0
              have y1 := hV2.vec_cell x1
              have y2 := hV2.vec_cell x2
              have y3 := hV2.vec_cell x3
              clear x0 x1 x2 x3 hV2
              have z0 := (hb.out.cell (p := ⟨g, k * 4, none⟩) y0.2.2).trans y0.1
              have z1 := (hb.out.cell (p := ⟨g, k * 4 + 1, none⟩) y0.2.2).trans y1.1
              have z2 := (hb.out.cell (p := ⟨g, k * 4 + 2, none⟩) y0.2.2).trans y2.1
              have z3 := (hb.out.cell (p := ⟨g, k * 4 + 3, none⟩) y0.2.2).trans y3.1
              have hgl := Nat.lt_of_lt_of_le y0.2.2 hb.out.size
              clear y0 y1 y2 y3
              obtain ⟨hR, hl1, hW1, hD1⟩ := (hG.out k hlt).below hb.out
              generalize hs.getD k default = x at *
              obtain ⟨xa, xc, xl⟩ := x
              simp only at z2 hR hl1 hW1 hD1
              have i1 : (0 : Int) ≤ (k : Int) := by omega
              have i2 : (k : Int) < 3 := by omega
              obtain ⟨XL, XI, hLI⟩ : ∃ XL XI, Hid (scanN (opens xl) xl [] = (XL, XI)) := ⟨_, _, rfl⟩
              have hb1 := Lib.hid (show XL.length ≤ 1000 by have := (scanN_len (opens xl) xl []).1; rw [hLI.out] at this; simp only at this; omega)
              have hb2 := Lib.hid (show XI.length ≤ 1000 by have := (scanN_len (opens xl) xl []).2; rw [hLI.out] at this; have h3 := opens_le xl; simp at this; omega)
              have HO := Lib.hid (ownHead_any t r n (.slice xa xl.length xc) xl wr hR hl1)
              have HR := Lib.hid (fun W hb => scanR_any t r n (.slice xa xl.length xc) xl W (hR.below hb) hl1 hW1 hD1)
              replace hl1 := Lib.hid hl1
              replace hW1 := Lib.hid hW1
              clear hR hD1
              unfold hval at HO HR
              rw [hLI.out] at HR
              simp only at HR
              go_wp2_with fail
              refine HO.out.mono ?_
              rintro e v1 ⟨a1', c1', rfl, q⟩
              have HSc := Lib.hid (scan_any t r n (.slice a1' xl.length c1') xl v1 q.vq_rq hl1.out hW1.out)
              have b1 := Lib.hid q.tail.gold
              unfold hval at HSc
              rw [hLI.out] at HSc
              simp only at HSc
              clear q HO hLI
              go_wp2_with fail
              refine HSc.out.mono ?_
              rintro e v2 ⟨a2', c2', b2', d2', rfl, q⟩
              have R2 := Lib.hid q.vq_rq
              have I2 := Lib.hid q.to1.vec_ri
              have hS := Lib.hid ((((Sep.start wr).below b1.out).below q.tail.tail.gold).alloc #[.int .i64 t, .int .i64 r, .slice a2' XL.length c2', .int .i64 n] 26)
              have hT := Lib.hid ((Sep.start v2).allocG (.cells #[.int .i64 t, .int .i64 r, .slice a2' XL.length c2', .int .i64 n] 26))
              clear q HSc b1
              replace z0 := (hS.out.tail.gold.cell (p := ⟨g, k * 4, none⟩) hgl).trans z0
              replace z1 := (hS.out.tail.gold.cell (p := ⟨g, k * 4 + 1, none⟩) hgl).trans z1
              replace z2 := (hS.out.tail.gold.cell (p := ⟨g, k * 4 + 2, none⟩) hgl).trans z2
              replace z3 := (hS.out.tail.gold.cell (p := ⟨g, k * 4 + 3, none⟩) hgl).trans z3
              go_wp2_with fail
              refine (HR.out _ hS.out.tail.gold).mono ?_
              rintro e v3 ⟨a3', c3', b3', d3', rfl, q⟩
              clear z0 z1 z2 z3 HR
              have R3 := Lib.hid q.vq_rq
              have I3 := Lib.hid q.to1.vec_ri
              replace hS := Lib.hid ((hS.out.below q.tail.tail.gold).alloc #[.int .i64 t, .int .i64 r, .slice a3' XL.length c3', .int .i64 n] 26)
              replace hT := Lib.hid ((hT.out.below q.tail.tail.gold).allocG (.cells #[.int .i64 t, .int .i64 r, .slice a3' XL.length c3', .int .i64 n] 26))
              have hU := Lib.hid ((Sep.start v3).allocG (.cells #[.int .i64 t, .int .i64 r, .slice a3' XL.length c3', .int .i64 n] 26))
              clear q
              obtain ⟨_, d0, d1, d2, d3, _⟩ := hS.out.b4
              obtain ⟨_, f0, f1, f2, f3, _⟩ := hS.out.to1.b4
              have HQ := Lib.hid (fun W hb => sameR_true t r n (.slice a2' XL.length c2') (.slice a3' XL.length c3') XL W ((R2.out.below hT.out.gold).below hb) ((R3.out.below hU.out.gold).below hb) hb1.out)
              unfold hval at HQ
              go_wp2_with fail
              refine (HQ.out _ (Below.refl _ _)).mono ?_
              rintro e v4 ⟨rfl, q⟩
              replace hS := Lib.hid (hS.out.below q)
              replace hT := Lib.hid (hT.out.below q)
              replace hU := Lib.hid (hU.out.below q)
              clear q HQ d0 d1 d2 d3 f0 f1 f2 f3
              go_wp2_with fail
              refine (same_true _ _ XI _ hb2.out (I2.out.below hT.out.gold) (I3.out.below hU.out.gold)).mono ?_
              rintro e v5 ⟨rfl, mm, rfl⟩
              replace hS := Lib.hid (hS.out.drewN mm)
              clear hT hU R2 R3 I2 I3
              go_wp2_with fail
              go_roundw
              case rel => exact ⟨k + 1, by omega, by go_num, belT hb.out hS.out.tail.tail.gold⟩
              case measure => simp [intOf]; omega
            · go_wp2_with fail
              go_ret
              exact ⟨rfl, belT hO.out hb.out⟩
  · have e12 := decide_eq_false h12
    clear h12 hv
    go_enter Try.func3, Try.ntmps3
    go_wp2_with fail
    refine (lives_any _).mono ?_
    rintro e w1 ⟨rfl, q⟩
    replace hS := Lib.hid (hS.out.below q)
    clear q
    obtain ⟨_, d0, d1, d2, d3, _⟩ := hS.out.b4
    go_wp2_with fail
    refine (light1_any w1.heap.size a l.length c _ (hS.out.alloc #[.int .i64 t, .int .i64 r, .slice a l.length c, .int .i64 n] 26).b4.2.2.2.1).mono ?_
    rintro e w2 ⟨rfl, rfl⟩
    replace hS := Lib.hid (hS.out.alloc #[.int .i64 t, .int .i64 r, .slice a l.length c, .int .i64 n] 26).tail
    clear d0 d1 d2 d3
    obtain ⟨_, d0, d1, d2, d3, _⟩ := hS.out.b4
    go_wp2_with fail
    go_ret
    exact ⟨rfl, hS.out.tail.gold⟩
end Go.Proofs.Ytmacpjnkmkaloaa
