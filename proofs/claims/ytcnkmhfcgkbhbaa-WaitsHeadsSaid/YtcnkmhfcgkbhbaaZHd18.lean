/-
  Contracts and plain laws that the walk leans on, part 18. No condition.
-/
import Derived.Test.YtcnkmhfcgkbhbaaZHd17
namespace Go.Proofs.Ytcnkmhfcgkbhbaa
open Go.RowKit
theorem same_true (u v : Value) (xs : List Int) (w : World) (hn : xs.length ≤ 1000) (hu : RI w u xs) (hv : RI w v xs) :
   Calls Try.prog 20 #[u, v] w fun e w' => e = .returned (.bool true) ∧ ∃ m, w' = w.drewN m := by
  obtain ⟨a, c, rfl, hr⟩ := hu
  obtain ⟨a', c', rfl, hr'⟩ := hv
  have HR := Lib.hid hr
  have HR' := Lib.hid hr'
  clear hr hr'
  generalize hl : xs.length = n at *
  have hl := Lib.hid hl
  go_enter Try.func20, Try.ntmps20
  go_wp2
  go_loopw [5] (fun i w1 => ∃ k : Nat, k ≤ n ∧ i = .int .i64 k ∧ ∃ m, w1 = w.drewN m) (fun i _ => n - (intOf i).toNat)
  case atStart => exact ⟨0, Nat.zero_le _, rfl, 0, rfl⟩
  case round =>
    obtain ⟨k, hk, rfl, m, rfl⟩ := hrel
    by_cases hlt : k < n
    · obtain ⟨b, off, rfl, _, hc⟩ := HR.out (by omega)
      obtain ⟨b', off', rfl, _, hc'⟩ := HR'.out (by omega)
      have h1 := hc k hlt
      have h2 := hc' k hlt
      clear hc hc' HR HR'
      generalize xs.getD k 0 = x at *
      go_wp2_with fail
      go_quiet (fail)
      go_wp2_with fail
      go_roundw
      case rel => exact ⟨k+1, by omega, by go_num, _, rfl⟩
      case measure => simp [intOf]; omega
    · go_wp2
      go_ret
      exact ⟨rfl, _, rfl⟩
end Go.Proofs.Ytcnkmhfcgkbhbaa
namespace Go.Proofs.Ytcnkmhfcgkbhbaa
open Go.RowKit
theorem acyclic_any (v : Value) (L : List Ed) (w : World) (hv : RL w v 2 L.length (L.flatMap Ed.cells)) (hl : L.length ≤ 1000) :
    Calls Try.prog 12 #[v] w fun e w' => e = .returned (.bool !(cyc L).2) ∧ Below w.heap.size w w' := by
  have HC := Lib.hid (cycle_any v L w hv hl)
  clear hv
  go_enter Try.func12, Try.ntmps12
  go_wp2_with fail
  refine HC.out.mono ?_
  rintro e w1 ⟨a, c, rfl, q⟩
  replace q := Lib.hid q
  clear HC
  go_wp2_with fail
  go_ret
  exact ⟨rfl, q.out.tail.gold⟩
end Go.Proofs.Ytcnkmhfcgkbhbaa
namespace Go.Proofs.Ytcnkmhfcgkbhbaa
open Go.RowKit
abbrev exL : List Ed := [⟨1, 2⟩, ⟨2, 3⟩, ⟨3, 1⟩, ⟨2, 1⟩]
theorem ex_sd : sdE exL = [⟨1, 2⟩, ⟨2, 1⟩, ⟨2, 3⟩, ⟨3, 1⟩] := by
  refine ltE_uniq _ _ (sdE_pw _) ?_ fun e => ?_
  · simp [ltE]
  · rw [sdE_mem]
    simp only [exL, List.mem_cons, List.not_mem_nil, or_false]
    constructor
    · rintro (h | h | h | h) <;> simp [h]
    · rintro (h | h | h | h) <;> simp [h]
theorem ex_cyc : cyc exL = ([1, 2], true) := by
  unfold cyc nxL
  rw [ex_sd]
  rfl
theorem ex_rl {w : World} {g : Nat} {rs : List Res} (h : Sep w (blk g 41 #[.int .i64 1, .int .i64 2, .int .i64 2, .int .i64 3, .int .i64 3, .int .i64 1, .int .i64 2, .int .i64 1] :: rs)) : RL w (.slice (some ⟨g, 0, none⟩) 4 4) 2 exL.length (exL.flatMap Ed.cells) :=
  (h.blk_vec (size := 2) (n := 4) (c := 4) (xs := exL.flatMap Ed.cells) rfl (Nat.le_refl _) (by decide) rfl rfl).vec_rl
theorem ri_two {w : World} {g : Nat} {x y : Int} {t : TypeId} {rs : List Res} (h : Sep w (blk g t #[.int .i64 x, .int .i64 y] :: rs)) : RI w (.slice (some ⟨g, 0, none⟩) 2 2) [x, y] :=
  ⟨_, 2, rfl, fun _ => ⟨g, 0, rfl, h.b2.1, fun j hj => by
    have h2 : j = 0 ∨ j = 1 := by simp at hj; omega
    rcases h2 with rfl | rfl
    · exact h.b2.2.1
    · exact h.b2.2.2.1⟩⟩
set_option maxHeartbeats 4000000 in
set_option maxRecDepth 100000 in
theorem lives_any (w : World) : Calls Try.prog 8 #[] w fun e w' => e = .returned (.bool true) ∧ Below w.heap.size w w' := by
  have hS := Lib.hid ((Sep.start w).alloc #[.int .i64 1, .int .i64 2, .int .i64 2, .int .i64 3, .int .i64 3, .int .i64 1, .int .i64 2, .int .i64 1] 41)
  have HC := Lib.hid (cycle_any _ exL _ (ex_rl hS.out) (by decide))
  rw [ex_cyc] at HC
  go_enter Try.func8, Try.ntmps8
  go_wp2_with fail
  refine HC.out.mono ?_
  rintro e w1 ⟨a, c, rfl, q⟩
  simp only [List.length_cons, List.length_nil] at q ⊢
  replace hS := Lib.hid (q.graft hS.out)
  clear q HC
  replace hS := Lib.hid (hS.out.alloc #[.int .i64 1, .int .i64 2] 3)
  go_wp2_with fail
  refine (same_true _ _ [1, 2] _ (by decide) hS.out.to1.vec_ri (ri_two hS.out)).mono ?_
  rintro e w2 ⟨rfl, m, rfl⟩
  replace hS := Lib.hid (hS.out.drewN m)
  go_wp2_with fail
  go_ret
  exact ⟨rfl, hS.out.tail.tail.tail.gold⟩
end Go.Proofs.Ytcnkmhfcgkbhbaa
namespace Go.Proofs.Ytcnkmhfcgkbhbaa
open Go.RowKit
/-- The first few of some edges. -/
theorem RL.take {w : World} {a : Option Addr} {c k : Nat} {L : List Ed} (h : RL w (.slice a L.length c) 2 L.length (L.flatMap Ed.cells)) (hk : k ≤ L.length) : RL w (.slice a k c) 2 (L.take k).length ((L.take k).flatMap Ed.cells) := by
  have hl : (L.take k).length = k := by rw [List.length_take]; omega
  obtain ⟨_, a', c', hv, hc, hn, hz⟩ := h
  injection hv with e1 _ e3
  subst e1 e3
  refine ⟨flat_len Ed.cells 2 ed_len _, a, c, by rw [hl], by omega, hn, fun h0 => ?_⟩
  obtain ⟨b, off, ha, hb, hz⟩ := hz (by omega)
  refine ⟨b, off, ha, hb, fun j u hj => hz j u ?_⟩
  rw [← flat_take Ed.cells 2 ed_len L k hk, List.getElem?_take] at hj
  split at hj
  · exact hj
  · cases hj
end Go.Proofs.Ytcnkmhfcgkbhbaa
namespace Go.Proofs.Ytcnkmhfcgkbhbaa
open Go.RowKit
theorem hds_one (x : Hv) : hdsE [x] = quE x.l := by simp [hdsE]
theorem sdE_le (L : List Ed) : (sdE L).length ≤ L.length := sdE_len L
theorem hd_single {w : World} {g : Nat} {t r n : Int} {v : Value} {l : List Rq} {rs : List Res} (h : Sep w (blk g 29 #[.int .i64 t, .int .i64 r, v, .int .i64 n] :: rs)) (hq : RQ w v l) : HD w (.slice (some ⟨g, 0, none⟩) 1 1) [⟨t, r, n, v, l⟩] := by
  obtain ⟨h0, d0, d1, d2, d3, _⟩ := h.b4
  refine ⟨_, 1, rfl, fun _ => ⟨g, 0, rfl, h0, fun i hi => ?_⟩, fun i hi => ?_⟩
  · obtain rfl : i = 0 := by simpa using hi
    exact ⟨d0, d1, d2, d3⟩
  · obtain rfl : i = 0 := by simpa using hi
    exact hq
theorem any_snoc (E : List Ed) (x : Int) (j : Nat) (h : j < E.length) : ((E.take (j + 1)).any fun e => e.from_ == x) = (((E.take j).any fun e => e.from_ == x) || ((E.getD j default).from_ == x)) := by
  have e : E.getD j default = E[j] := by simp [List.getD, h]
  rw [e, List.take_succ_eq_append_getElem h, List.any_append]
  simp
set_option maxHeartbeats 20000000 in
set_option maxRecDepth 100000 in
theorem heads_walk (a : Option Addr) (len cap : Nat) (hs : List Hv) (w : World) (hv : HD w (.slice a len cap) hs) (hlen : hs.length = len) :
    Calls Try.prog 3 #[.slice a len cap] w fun e w' => e = .returned (.bool true) ∧ Below w.heap.size w w' := by
  have HRt := Lib.hid (fun W hb => right_any (.slice a len cap) hs W (hv.below hb))
  cases hrh : rightH hs 8 with
  | false =>
    rw [hrh] at HRt
    clear hrh hv hlen
    go_enter Try.func3, Try.ntmps3
    go_wp2_with fail
    refine (lives_any _).mono ?_
    rintro e w1 ⟨rfl, q⟩
    have hV := Lib.hid ((Sep.start w).below q)
    clear q
    go_wp2_with fail
    refine (HRt.out _ hV.out.gold).mono ?_
    rintro e w2 ⟨rfl, q⟩
    replace hV := Lib.hid (hV.out.below q)
    clear q
    go_wp2_with fail
    go_ret
    exact ⟨rfl, hV.out.gold⟩
  | true =>
    rw [hrh] at HRt
    have hall : ∀ i, i < len → (hs.getD i default).l.length ≤ 12 ∧ checkB (hs.getD i default).n (hs.getD i default).l = true := by
      unfold rightH lightH at hrh
      simp only [Bool.and_eq_true] at hrh
      exact fun i hi => ⟨by simpa using all_at hrh.1.2 (k := i) (by omega), all_at hrh.2 (k := i) (by omega)⟩
    have hl8 : len ≤ 8 := by
      unfold rightH lightH at hrh
      simp only [Bool.and_eq_true, decide_eq_true_eq] at hrh
      omega
    replace hall := Lib.hid hall
    obtain ⟨ua, uc, huv, hr, hq⟩ := hv
    injection huv with e1 e2 e3
    subst e1 e3
    rw [hlen] at hr hq
    clear e2 hlen hrh
    replace hr := Lib.hid hr
    replace hq := Lib.hid hq
    go_enter Try.func3, Try.ntmps3
    go_wp2_with fail
    refine (lives_any _).mono ?_
    rintro e w1 ⟨rfl, q⟩
    have hV := Lib.hid ((Sep.start w).below q)
    clear q
    go_wp2_with fail
    refine (HRt.out _ hV.out.gold).mono ?_
    rintro e w2 ⟨rfl, q⟩
    replace hV := Lib.hid (hV.out.below q)
    clear q HRt
    go_wp2_with fail
    go_loopg [3] len (fun gm s3 W => ∃ i : Nat, i ≤ len ∧ gm = len - i ∧ s3 = .int .i64 i ∧ Hid (Sep W [old w]))
    case atStart => exact ⟨0, Nat.zero_le _, rfl, rfl, hV⟩
    case round =>
      clear hV
      obtain ⟨i, hi, hgm, rfl, hV⟩ := hrel
      by_cases hlt : i < len
      · obtain ⟨b, off, rfl, hb, hz⟩ := hr.out (by omega)
        obtain ⟨z0, z1, z2, z3⟩ := hz i hlt
        have kk : ∀ o, wr.cell? ⟨b, o, none⟩ = w.cell? ⟨b, o, none⟩ := fun o => hV.out.gold.cell (p := ⟨b, o, none⟩) hb
        rw [← kk] at z0 z1 z2 z3
        have hRQ := hq.out i hlt
        obtain ⟨hx12, hck⟩ := hall.out i hlt
        clear hz kk
        generalize hs.getD i default = x at *
        obtain ⟨t, r, nw, v, l⟩ := x
        simp only at z0 z1 z2 z3 hRQ hx12 hck
        have hO0 := (ord_iff _ _).1 hck
        have HSc := Lib.hid (scanR_any t r nw v l wr (hRQ.below hV.out.gold) (by omega) (checkB_wants _ _ hck) (checkB_ids _ _ hck))
        have hsl := scan_len (opens l) l []
        have hO := ord_scan (opens l) l [] hO0
        have hC := scan_calm (opens l) l [] (Nat.le_refl _) (checkB_wants _ _ hck)
        obtain ⟨qa, qc, rfl, _⟩ := hRQ
        generalize scanN (opens l) l [] = sc at *
        obtain ⟨l2, ids⟩ := sc
        simp only at HSc hsl hO hC
        generalize l.length = m at *
        clear hck hO0
        have HE := Lib.hid (fun g v W (h : HD W (.slice (some ⟨g, 0, none⟩) 1 1) [⟨t, r, nw, v, l2⟩]) => edges_any (.slice (some ⟨g, 0, none⟩) 1 1) [⟨t, r, nw, v, l2⟩] W h (by simp) (by simp; omega))
        simp only [hds_one] at HE
        replace HE := Lib.hid HE.out
        have hEl := Nat.le_trans (sdE_le (quE l2)) (quE_len l2 (by omega))
        have hEm := sdE_mem (quE l2)
        have hself := Lib.hid (fun e (he : e ∈ sdE (quE l2)) => quE_self hO e ((hEm e).1 he))
        have hfrom := Lib.hid (fun k hk => quE_from hO hC k hk (sdE (quE l2)) hEm)
        have hac := Lib.hid (fun h => quE_acyc hO h (sdE (quE l2)) hEm)
        generalize sdE (quE l2) = E at *
        have HA := Lib.hid (fun v W h => acyclic_any v E W h (by omega))
        have HU := Lib.hid (fun v W (h : RQ W v l2) => upgradesH_any t r nw v l2 W h (by omega))
        obtain ⟨ne, hne⟩ : ∃ ne, E.length = ne := ⟨_, rfl⟩
        simp only [hne] at HE HA hEl
        replace HE := Lib.hid HE.out
        replace HA := Lib.hid HA.out
        replace hne := Lib.hid hne
        obtain ⟨m2, hm2⟩ : ∃ m2, l2.length = m2 := ⟨_, rfl⟩
        simp only [hm2] at HSc hfrom hsl
        replace hfrom := Lib.hid hfrom.out
        replace hm2 := Lib.hid hm2
        subst hsl
        have i1 : (0 : Int) ≤ (i : Int) := by omega
        have i2 : (i : Int) < (len : Int) := by omega
        have hms := Lib.hid (show len - (i + 1) < len - i by omega)
        clear hEm hO hC
        unfold hval at HSc HU
        go_wp2_with fail
        refine HSc.out.mono ?_
        rintro e w3 ⟨sa, sp, sb, sd, rfl, q⟩
        have hV1 := (((Sep.gstar.1 ((Sep.gstar.2 q).graft hV.out)).alloc #[.int .i64 t, .int .i64 r, .slice sa m2 sp, .int .i64 nw] 29))
        obtain ⟨_, d0, d1, d2, d3, _⟩ := hV1.b4
        replace hV1 := hV1.alloc #[.int .i64 t, .int .i64 r, .slice sa m2 sp, .int .i64 nw] 29
        rw [World.size_alloc] at hV1
        replace hV1 := Lib.hid hV1
        clear q HSc z0 z1 z2 z3 hV
        go_wp2_with fail
        refine (HE.out _ _ _ (hd_single hV1.out hV1.out.to2.vq_rq)).mono ?_
        rintro e w4 ⟨ea, ec, rfl, q⟩
        have hV := Lib.hid (q.graft hV1.out).drop1.to1
        generalize w3.heap.size = gh at *
        clear q HE hV1 d0 d1 d2 d3
        have HA1 := Lib.hid (HA.out _ _ hV.out.to1.vec_rl)
        have HU1 := Lib.hid (fun W hb => HU.out _ W (RQ.below hV.out.to2.vq_rq hb))
        clear HA HU
        obtain ⟨cy, hcy⟩ : ∃ cy, (cyc E).2 = cy := ⟨_, rfl⟩
        rw [hcy] at HA1 hac
        clear hcy
        cases cy with
        | false =>
          clear hac HU1
          go_wp2_with fail
          refine HA1.out.mono ?_
          rintro e w5 ⟨rfl, q⟩
          replace hV := Lib.hid (show Sep _ [blk gh 29 #[.int .i64 t, .int .i64 r, .slice sa m2 sp, .int .i64 nw], vec 41 2 (.slice ea ne ec) ne (E.flatMap Ed.cells), vq (.slice sa m2 sp) l2, old w] from (hV.out.below q).to3.tail)
          clear q HA1
          go_wp2_with fail
          go_loopg [7] m2 (fun gm s7 W => ∃ k : Nat, k ≤ m2 ∧ gm = m2 - k ∧ s7 = .int .i64 k ∧ Hid (Sep W [blk gh 29 #[.int .i64 t, .int .i64 r, .slice sa m2 sp, .int .i64 nw], vec 41 2 (.slice ea ne ec) ne (E.flatMap Ed.cells), vq (.slice sa m2 sp) l2, old w]))
          case atStart => exact ⟨0, Nat.zero_le _, rfl, rfl, hV⟩
          case round =>
            clear hV
            obtain ⟨k, hk, hgm2, rfl, hV⟩ := hrel
            obtain ⟨_, d0, d1, d2, d3, _⟩ := hV.out.b4
            by_cases hlt2 : k < m2
            · obtain ⟨a', c', ev, _, _, hcell⟩ := hV.out.to2.vq_rq
              injection ev with ea1 el1 ec1
              clear el1 ec1
              obtain ⟨qb, qo, hqa, _, hqz⟩ := hcell (by rw [hm2.out]; omega)
              rw [hqa] at ea1
              subst ea1
              obtain ⟨y0, y1, y2, y3, y4⟩ := hqz k (by rw [hm2.out]; exact hlt2)
              have hfr := hfrom.out k hlt2
              clear hqz hcell hqa
              generalize l2.getD k default = q at *
              obtain ⟨id, txn, mode, want, since⟩ := q
              simp only at y0 y1 y2 y3 y4 hfr
              replace hfr := Lib.hid hfr
              have i1 : (0 : Int) ≤ (k : Int) := by omega
              have i2 : (k : Int) < (m2 : Int) := by omega
              have hms2 := Lib.hid (show m2 - (k + 1) < m2 - k by omega)
              have hV1 := Lib.hid (show Sep _ [blk wr.heap.size 39 #[.int .i64 id, .int .i64 txn, .int .i64 mode, .int .i64 want, .int .i64 since], blk gh 29 #[.int .i64 t, .int .i64 r, .slice (some ⟨qb, qo, none⟩) m2 sp, .int .i64 nw], vec 41 2 (.slice ea ne ec) ne (E.flatMap Ed.cells), vq (.slice (some ⟨qb, qo, none⟩) m2 sp) l2, old w] from hV.out.alloc #[.int .i64 id, .int .i64 txn, .int .i64 mode, .int .i64 want, .int .i64 since] 39)
              go_wp2_with fail
              generalize wr.heap.size = gr at *
              clear hV d0 d1 d2 d3 y0 y1 y2 y3 y4
              go_loopg [9, 10] ne (fun gm s9 s10 W => ∃ (j : Nat) (bb : Bool), j ≤ ne ∧ gm = ne - j ∧ s9 = .bool bb ∧ s10 = .int .i64 j ∧ Hid (bb = (E.take j).any fun e => e.from_ == txn) ∧ Hid (Sep W [blk gr 39 #[.int .i64 id, .int .i64 txn, .int .i64 mode, .int .i64 want, .int .i64 since], blk gh 29 #[.int .i64 t, .int .i64 r, .slice (some ⟨qb, qo, none⟩) m2 sp, .int .i64 nw], vec 41 2 (.slice ea ne ec) ne (E.flatMap Ed.cells), vq (.slice (some ⟨qb, qo, none⟩) m2 sp) l2, old w]))
              case atStart => exact ⟨0, false, Nat.zero_le _, rfl, rfl, rfl, Lib.hid rfl, hV1⟩
              case round =>
                clear hV1
                obtain ⟨j, bb, hj, hgm3, rfl, rfl, hb, hV⟩ := hrel
                obtain ⟨_, p0, p1, p2, p3, p4, _⟩ := hV.out.b5
                by_cases hlt3 : j < ne
                · have hjl : j < E.length := by rw [hne.out]; exact hlt3
                  obtain ⟨eb, eo, rfl, _, zz⟩ := cells_ed hV.out.to2.vec_rl hne.out (by omega)
                  have hg : E[j]? = some (E.getD j default) := by rw [List.getElem?_eq_getElem hjl]; simp [List.getD, hjl]
                  have x0 := zz j _ hg 0 _ rfl
                  have x1 := zz j _ hg 1 _ rfl
                  rw [Nat.add_zero] at x0
                  rw [← Nat.add_assoc] at x1
                  have hse := hself.out _ (List.mem_of_getElem? hg)
                  have hsn := any_snoc E txn j hjl
                  rw [← hb.out] at hsn
                  generalize E.getD j default = ed at *
                  obtain ⟨f, g⟩ := ed
                  simp only at x0 x1 hse hsn
                  have hse1 : (f == g) = false := by simpa using hse
                  replace hsn := Lib.hid hsn
                  clear zz hg hb hse
                  have j1 : (0 : Int) ≤ (j : Int) := by omega
                  have j2 : (j : Int) < (ne : Int) := by omega
                  have hms3 := Lib.hid (show ne - (j + 1) < ne - j by omega)
                  cases bb with
                  | true =>
                    go_wp2_with fail
                    go_quiet (fail)
                    go_wp2_with fail
                    go_quiet (fail)
                    go_wp2_with fail
                    go_roundg (ne - (j + 1))
                    case measure => first | exact hms3.out | (rw [hgm3]; exact hms3.out)
                    case rel => exact ⟨j + 1, true, by omega, rfl, rfl, by go_num, Lib.hid (by rw [hsn.out]; rfl), Lib.hid (hV.out.drewN _)⟩
                  | false =>
                    go_wp2_with fail
                    go_quiet (fail)
                    go_wp2_with fail
                    go_quiet (fail)
                    go_wp2_with fail
                    go_roundg (ne - (j + 1))
                    case measure => first | exact hms3.out | (rw [hgm3]; exact hms3.out)
                    case rel => exact ⟨j + 1, (f == txn), by omega, rfl, rfl, by go_num, Lib.hid (by rw [hsn.out]; rfl), Lib.hid (hV.out.drewN _)⟩
                · obtain rfl : j = ne := by omega
                  have hbf : bb = decide (0 < since) := by rw [hb.out, ← hne.out, List.take_length]; exact hfr.out
                  clear hb
                  by_cases hs0 : 0 < since
                  · rw [decide_eq_true hs0] at hbf
                    subst hbf
                    have e1 : decide (0 < since) = true := decide_eq_true hs0
                    go_wp2_with fail
                    go_roundg (m2 - (k + 1))
                    case measure => first | exact hms2.out | (rw [hgm2]; exact hms2.out)
                    case rel => exact ⟨k + 1, by omega, rfl, by go_num, Lib.hid hV.out.tail⟩
                  · rw [decide_eq_false hs0] at hbf
                    subst hbf
                    have e1 : decide (0 < since) = false := decide_eq_false hs0
                    go_wp2_with fail
                    go_roundg (m2 - (k + 1))
                    case measure => first | exact hms2.out | (rw [hgm2]; exact hms2.out)
                    case rel => exact ⟨k + 1, by omega, rfl, by go_num, Lib.hid hV.out.tail⟩
            · obtain rfl : k = m2 := by omega
              go_wp2_with fail
              go_roundg (len - (i + 1))
              case measure => first | exact hms.out | (rw [hgm]; exact hms.out)
              case rel => exact ⟨i + 1, by omega, rfl, by go_num, Lib.hid hV.out.to3.drop1.drop1.drop1⟩
        | true =>
          have hup : decide (1 < ups l2) = true := decide_eq_true (Nat.lt_of_not_le fun h => by have := hac.out h; cases this)
          replace HU1 := Lib.hid HU1.out
          rw [hup] at HU1
          clear hac hup
          go_wp2_with fail
          refine HA1.out.mono ?_
          rintro e w5 ⟨rfl, q⟩
          replace hV := Lib.hid (show Sep _ [blk gh 29 #[.int .i64 t, .int .i64 r, .slice sa m2 sp, .int .i64 nw], vec 41 2 (.slice ea ne ec) ne (E.flatMap Ed.cells), vq (.slice sa m2 sp) l2, old w] from (hV.out.below q).to3.tail)
          obtain ⟨_, d0, d1, d2, d3, _⟩ := hV.out.b4
          go_wp2_with fail
          refine (HU1.out _ q).mono ?_
          rintro e w6 ⟨rfl, q2⟩
          replace hV := Lib.hid (hV.out.below q2)
          clear q q2 HA1 HU1 d0 d1 d2 d3
          go_wp2_with fail
          go_loopg [7] m2 (fun gm s7 W => ∃ k : Nat, k ≤ m2 ∧ gm = m2 - k ∧ s7 = .int .i64 k ∧ Hid (Sep W [blk gh 29 #[.int .i64 t, .int .i64 r, .slice sa m2 sp, .int .i64 nw], vec 41 2 (.slice ea ne ec) ne (E.flatMap Ed.cells), vq (.slice sa m2 sp) l2, old w]))
          case atStart => exact ⟨0, Nat.zero_le _, rfl, rfl, hV⟩
          case round =>
            clear hV
            obtain ⟨k, hk, hgm2, rfl, hV⟩ := hrel
            obtain ⟨_, d0, d1, d2, d3, _⟩ := hV.out.b4
            by_cases hlt2 : k < m2
            · obtain ⟨a', c', ev, _, _, hcell⟩ := hV.out.to2.vq_rq
              injection ev with ea1 el1 ec1
              clear el1 ec1
              obtain ⟨qb, qo, hqa, _, hqz⟩ := hcell (by rw [hm2.out]; omega)
              rw [hqa] at ea1
              subst ea1
              obtain ⟨y0, y1, y2, y3, y4⟩ := hqz k (by rw [hm2.out]; exact hlt2)
              have hfr := hfrom.out k hlt2
              clear hqz hcell hqa
              generalize l2.getD k default = q at *
              obtain ⟨id, txn, mode, want, since⟩ := q
              simp only at y0 y1 y2 y3 y4 hfr
              replace hfr := Lib.hid hfr
              have i1 : (0 : Int) ≤ (k : Int) := by omega
              have i2 : (k : Int) < (m2 : Int) := by omega
              have hms2 := Lib.hid (show m2 - (k + 1) < m2 - k by omega)
              have hV1 := Lib.hid (show Sep _ [blk wr.heap.size 39 #[.int .i64 id, .int .i64 txn, .int .i64 mode, .int .i64 want, .int .i64 since], blk gh 29 #[.int .i64 t, .int .i64 r, .slice (some ⟨qb, qo, none⟩) m2 sp, .int .i64 nw], vec 41 2 (.slice ea ne ec) ne (E.flatMap Ed.cells), vq (.slice (some ⟨qb, qo, none⟩) m2 sp) l2, old w] from hV.out.alloc #[.int .i64 id, .int .i64 txn, .int .i64 mode, .int .i64 want, .int .i64 since] 39)
              go_wp2_with fail
              generalize wr.heap.size = gr at *
              clear hV d0 d1 d2 d3 y0 y1 y2 y3 y4
              go_loopg [9, 10] ne (fun gm s9 s10 W => ∃ (j : Nat) (bb : Bool), j ≤ ne ∧ gm = ne - j ∧ s9 = .bool bb ∧ s10 = .int .i64 j ∧ Hid (bb = (E.take j).any fun e => e.from_ == txn) ∧ Hid (Sep W [blk gr 39 #[.int .i64 id, .int .i64 txn, .int .i64 mode, .int .i64 want, .int .i64 since], blk gh 29 #[.int .i64 t, .int .i64 r, .slice (some ⟨qb, qo, none⟩) m2 sp, .int .i64 nw], vec 41 2 (.slice ea ne ec) ne (E.flatMap Ed.cells), vq (.slice (some ⟨qb, qo, none⟩) m2 sp) l2, old w]))
              case atStart => exact ⟨0, false, Nat.zero_le _, rfl, rfl, rfl, Lib.hid rfl, hV1⟩
              case round =>
                clear hV1
                obtain ⟨j, bb, hj, hgm3, rfl, rfl, hb, hV⟩ := hrel
                obtain ⟨_, p0, p1, p2, p3, p4, _⟩ := hV.out.b5
                by_cases hlt3 : j < ne
                · have hjl : j < E.length := by rw [hne.out]; exact hlt3
                  obtain ⟨eb, eo, rfl, _, zz⟩ := cells_ed hV.out.to2.vec_rl hne.out (by omega)
                  have hg : E[j]? = some (E.getD j default) := by rw [List.getElem?_eq_getElem hjl]; simp [List.getD, hjl]
                  have x0 := zz j _ hg 0 _ rfl
                  have x1 := zz j _ hg 1 _ rfl
                  rw [Nat.add_zero] at x0
                  rw [← Nat.add_assoc] at x1
                  have hse := hself.out _ (List.mem_of_getElem? hg)
                  have hsn := any_snoc E txn j hjl
                  rw [← hb.out] at hsn
                  generalize E.getD j default = ed at *
                  obtain ⟨f, g⟩ := ed
                  simp only at x0 x1 hse hsn
                  have hse1 : (f == g) = false := by simpa using hse
                  replace hsn := Lib.hid hsn
                  clear zz hg hb hse
                  have j1 : (0 : Int) ≤ (j : Int) := by omega
                  have j2 : (j : Int) < (ne : Int) := by omega
                  have hms3 := Lib.hid (show ne - (j + 1) < ne - j by omega)
                  cases bb with
                  | true =>
                    go_wp2_with fail
                    go_quiet (fail)
                    go_wp2_with fail
                    go_quiet (fail)
                    go_wp2_with fail
                    go_roundg (ne - (j + 1))
                    case measure => first | exact hms3.out | (rw [hgm3]; exact hms3.out)
                    case rel => exact ⟨j + 1, true, by omega, rfl, rfl, by go_num, Lib.hid (by rw [hsn.out]; rfl), Lib.hid (hV.out.drewN _)⟩
                  | false =>
                    go_wp2_with fail
                    go_quiet (fail)
                    go_wp2_with fail
                    go_quiet (fail)
                    go_wp2_with fail
                    go_roundg (ne - (j + 1))
                    case measure => first | exact hms3.out | (rw [hgm3]; exact hms3.out)
                    case rel => exact ⟨j + 1, (f == txn), by omega, rfl, rfl, by go_num, Lib.hid (by rw [hsn.out]; rfl), Lib.hid (hV.out.drewN _)⟩
                · obtain rfl : j = ne := by omega
                  have hbf : bb = decide (0 < since) := by rw [hb.out, ← hne.out, List.take_length]; exact hfr.out
                  clear hb
                  by_cases hs0 : 0 < since
                  · rw [decide_eq_true hs0] at hbf
                    subst hbf
                    have e1 : decide (0 < since) = true := decide_eq_true hs0
                    go_wp2_with fail
                    go_roundg (m2 - (k + 1))
                    case measure => first | exact hms2.out | (rw [hgm2]; exact hms2.out)
                    case rel => exact ⟨k + 1, by omega, rfl, by go_num, Lib.hid hV.out.tail⟩
                  · rw [decide_eq_false hs0] at hbf
                    subst hbf
                    have e1 : decide (0 < since) = false := decide_eq_false hs0
                    go_wp2_with fail
                    go_roundg (m2 - (k + 1))
                    case measure => first | exact hms2.out | (rw [hgm2]; exact hms2.out)
                    case rel => exact ⟨k + 1, by omega, rfl, by go_num, Lib.hid hV.out.tail⟩
            · obtain rfl : k = m2 := by omega
              go_wp2_with fail
              go_roundg (len - (i + 1))
              case measure => first | exact hms.out | (rw [hgm]; exact hms.out)
              case rel => exact ⟨i + 1, by omega, rfl, by go_num, Lib.hid hV.out.to3.drop1.drop1.drop1⟩
      · go_wp2_with fail
        go_ret
        exact ⟨rfl, hV.out.gold⟩
end Go.Proofs.Ytcnkmhfcgkbhbaa
