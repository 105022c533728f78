/-
  The walk of WaitsCycles. No condition beside an argument that can be read.
-/
import Derived.Test.YtcnkmhfcgkbhbaaWLf
namespace Go.Proofs.Ytcnkmhfcgkbhbaa
open Go.RowKit
set_option maxHeartbeats 4000000 in
set_option maxRecDepth 100000 in
theorem in_any (v : Value) (L : List Ed) (fr to : Int) (w : World) (hv : RL w v 2 L.length (L.flatMap Ed.cells)) (hl : L.length ≤ 1000) (hm : ⟨fr, to⟩ ∈ L) :
    Calls Try.prog 16 #[v, .agg #[.int .i64 fr, .int .i64 to]] w fun e w' => e = .returned (.bool true) ∧ Below w.heap.size w w' := by
  have hB := Lib.hid ((Sep.start w).alloc #[.int .i64 fr, .int .i64 to] 41)
  have hv2 := Lib.hid hv
  obtain ⟨_, a, c, rfl, _⟩ := hv
  generalize hn : L.length = n at *
  replace hn := Lib.hid hn
  replace hm := Lib.hid hm
  go_enter Try.func16, Try.ntmps16
  go_wp2_with fail
  go_loopg [5] n (fun gm s5 W => ∃ k : Nat, k ≤ n ∧ gm = n - k ∧ s5 = .int .i64 k ∧ Hid (∀ x ∈ L.take k, x ≠ ⟨fr, to⟩) ∧ Hid (Sep W [blk w.heap.size 41 #[.int .i64 fr, .int .i64 to], old w]))
  case atStart => exact ⟨0, Nat.zero_le _, rfl, rfl, Lib.hid (by simp), hB⟩
  case round =>
    clear hB
    obtain ⟨k, hk, hgm, rfl, hno, hV⟩ := hrel
    by_cases hlt : k < n
    · obtain ⟨_, c0, c1, _⟩ := hV.out.b2
      obtain ⟨b, off, rfl, _, zz⟩ := cells_ed (hv2.out.below hV.out.tail.gold) hn.out (by omega)
      have hkl : k < L.length := by rw [hn.out]; exact hlt
      have z0 := zz k _ (List.getElem?_eq_getElem hkl) 0 _ rfl
      have z1 := zz k _ (List.getElem?_eq_getElem hkl) 1 _ rfl
      have htk := Lib.hid (List.take_succ_eq_append_getElem hkl)
      obtain ⟨x, hx⟩ : ∃ x, L[k] = x := ⟨_, rfl⟩
      rw [hx] at z0 z1 htk
      clear zz hx
      obtain ⟨gr, so⟩ := x
      simp only at z0 z1
      rw [Nat.add_zero] at z0
      rw [← Nat.add_assoc] at z1
      have hqe := fun W => run_eql_ed gr fr so to W
      rw [eqB_ed_iff] at hqe
      have i1 : (0 : Int) ≤ (k : Int) := by omega
      have i2 : (k : Int) < (n : Int) := by omega
      by_cases he : gr = fr ∧ so = to
      · rw [decide_eq_true he] at hqe
        go_wp2_with fail
        go_quiet (fail)
        go_wp2_with fail
        go_ret
        exact ⟨rfl, (hV.out.drewN _).tail.gold⟩
      · rw [decide_eq_false he] at hqe
        go_wp2_with fail
        go_quiet (fail)
        go_wp2_with fail
        go_roundg (n - (k + 1))
        case measure =>
          clear hqe z0 z1 c0 c1 he hv2 hn
          omega
        case rel => exact ⟨k + 1, by omega, rfl, by go_num, Lib.hid (by
          intro y hy
          rw [htk.out, List.mem_append, List.mem_singleton] at hy
          rcases hy with hy | rfl
          · exact hno.out y hy
          · intro h
            injection h with h1 h2
            exact he ⟨h1, h2⟩), Lib.hid (hV.out.drewN _)⟩
    · exfalso
      have h := hno.out
      rw [show k = n by omega, ← hn.out, List.take_length] at h
      exact h _ hm.out rfl
set_option maxHeartbeats 20000000 in
set_option maxRecDepth 100000 in
/-- Without a cycle. -/
theorem cycles_no (a : Option Addr) (len cap : Nat) (L : List Ed) (xs : List Int) (w : World) (hcc : cyc L = (xs, false)) (hv1 : RL w (.slice a len cap) 2 L.length (L.flatMap Ed.cells)) (hlen : L.length = len) (h40 : len ≤ 40) :
    Calls Try.prog 4 #[.slice a len cap] w fun e w' => e = .returned (.bool true) ∧ Below w.heap.size w w' := by
  have hv := Lib.hid hv1
  clear hv1
  have i40 : ¬ ((40 : Int) < (len : Int)) := by omega
  have hl40 : L.length ≤ 1000 := by omega
  have HR := Lib.hid (fun q W (h : RL W (.slice a len cap) 2 L.length (L.flatMap Ed.cells)) => reachL_any (.slice a len cap) L q W h hl40)
  have HA := Lib.hid (fun W (h : RL W (.slice a len cap) 2 L.length (L.flatMap Ed.cells)) => acyclic_any (.slice a len cap) L W h hl40)
  have HC := Lib.hid (fun W (h : RL W (.slice a len cap) 2 L.length (L.flatMap Ed.cells)) => cycle_any (.slice a len cap) L W h hl40)
  have HI := Lib.hid (fun fr to W (h : RL W (.slice a len cap) 2 L.length (L.flatMap Ed.cells)) hm => in_any (.slice a len cap) L fr to W h hl40 hm)
  have hcl := cyc_len L
  have hok := cyc_ok L
  have hfst := Lib.hid (cyc_first L)
  have hedg := Lib.hid (cyc_edge L)
  have hnod := cyc_nodup L
  have hrl := Lib.hid (fun q => Nat.le_trans (rcL_le L q) hl40)
  have hrm := Lib.hid (rcL_mem L)
  rw [hcc] at hcl hok hfst hedg hnod
  simp only [hcc] at HA HC
  simp only at hcl hok hnod
  replace HA := Lib.hid HA.out
  replace HC := Lib.hid HC.out
  replace hfst := Lib.hid hfst.out
  replace hedg := Lib.hid hedg.out
  clear hcc
  obtain ⟨nc, hnc⟩ : ∃ nc, Hid (xs.length = nc) := ⟨_, rfl⟩
  rw [hnc.out] at hcl hok hedg
  simp only [hnc.out] at HC
  replace HC := Lib.hid HC.out
  have hnn := Lib.hid (fun k i (h1 : k < i) (h2 : i < nc) => show (xs.getD k 0 == xs.getD i 0) = false by
    rw [beq_eq_false_iff_ne]
    have h3 : i < xs.length := by rw [hnc.out]; exact h2
    have h4 := List.pairwise_iff_getElem.1 hnod k i (by omega) h3 h1
    simpa [List.getD, h3, show k < xs.length by omega] using h4)
  clear hnod
  obtain rfl : nc = 0 := by simpa using hok
  clear hok
  go_enter Try.func4, Try.ntmps4
  go_wp2_with fail
  refine (lives_any _).mono ?_
  rintro e w1 ⟨rfl, q⟩
  have hV := Lib.hid ((Sep.start w).below q)
  clear q
  go_wp2_with fail
  refine (HC.out _ (hv.out.below hV.out.gold)).mono ?_
  rintro e w2 ⟨ca, cp, rfl, q⟩
  replace hV := Lib.hid (q.graft hV.out)
  clear q HC
  go_wp2_with fail
  refine (HA.out _ (hv.out.below hV.out.tail.gold)).mono ?_
  rintro e w3 ⟨rfl, q⟩
  replace hV := Lib.hid (hV.out.below q)
  clear q HA
  go_wp2_with fail
  go_loopg [5] len (fun gm s5 W => ∃ i : Nat, i ≤ len ∧ gm = len - i ∧ s5 = .int .i64 i ∧ Hid (Sep W [vec 3 1 (.slice ca 0 cp) 0 (xs.map (Value.int .i64)), old w]))
  case atStart => exact ⟨0, Nat.zero_le _, rfl, rfl, hV⟩
  case round =>
    clear hV
    obtain ⟨i, hi, hgm, rfl, hV⟩ := hrel
    by_cases hlt : i < len
    · obtain ⟨b, off, rfl, hbl, zz⟩ := cells_ed (by have h := hv.out.below hV.out.tail.gold; rw [hlen] at h; exact h) hlen (by omega)
      have hil : i < L.length := by omega
      have hg : L[i]? = some (L.getD i default) := by rw [List.getElem?_eq_getElem hil]; simp [List.getD, hil]
      have z1 := zz i _ hg 0 _ rfl
      have hfe := hfst.out (L.getD i default) (List.mem_of_getElem? hg)
      rw [← hrm.out] at hfe
      rw [Nat.add_zero] at z1
      generalize (L.getD i default).from_ = fr at *
      have HR1 := Lib.hid (HR.out fr wr (hv.out.below hV.out.tail.gold))
      have hxl := hrl.out fr
      generalize rcL L fr = rs at *
      obtain ⟨nr, hnr⟩ : ∃ nr, Hid (rs.length = nr) := ⟨_, rfl⟩
      rw [hnr.out] at HR1 hxl
      replace hfe := Lib.hid hfe
      clear zz hg
      have i1 : (0 : Int) ≤ (i : Int) := by omega
      have i2 : (i : Int) < (len : Int) := by omega
      go_wp2_with fail
      refine HR1.out.mono ?_
      rintro e w4 ⟨ra, rp, rfl, q⟩
      have z2 := Lib.hid ((q.tail.gold.cell (p := ⟨b, off + i * 2, none⟩) hbl).trans z1)
      have hbl2 := Nat.lt_of_lt_of_le hbl q.tail.gold.size
      replace hV := Lib.hid (q.graft hV.out)
      clear q HR1 z1 hbl
      go_wp2_with fail
      go_loopg [7, 8] nr (fun gm s7 s8 W => ∃ (j : Nat) (bb : Bool), j ≤ nr ∧ gm = nr - j ∧ s7 = .bool bb ∧ Hid (bb = (rs.take j).any fun z => z == fr) ∧ s8 = .int .i64 j ∧ ∃ m, W = w4.drewN m)
      case atStart => exact ⟨0, false, Nat.zero_le _, rfl, rfl, Lib.hid rfl, rfl, 0, rfl⟩
      case round =>
        obtain ⟨j, bb, hj, hg2, rfl, hb, rfl, m, rfl⟩ := hrel
        have z3 := z2.out
        by_cases hlt2 : j < nr
        · obtain ⟨rg, rfl⟩ := hV.out.vec_ptr (by omega)
          have z := (hV.out.vec_cell (int_at (xs := rs) (i := j) (by rw [hnr.out]; exact hlt2))).1
          have hs2 := Lib.hid (show ((rs.take (j + 1)).any fun z => z == fr) = (bb || (rs.getD j 0 == fr)) by
            have hjl : j < rs.length := by rw [hnr.out]; exact hlt2
            have : rs.getD j 0 = rs[j] := by simp [List.getD, hjl]
            rw [this, List.take_succ_eq_append_getElem hjl, List.any_append, hb.out]
            simp)
          generalize rs.getD j 0 = x at *
          have j1 : (0 : Int) ≤ (j : Int) := by omega
          have j2 : (j : Int) < (nr : Int) := by omega
          cases bb with
          | true =>
            go_wp2_with fail
            go_quiet (fail)
            go_wp2_with fail
            go_roundg (nr - (j + 1))
            case measure => omega
            case rel => exact ⟨j + 1, true, by omega, rfl, rfl, Lib.hid (by rw [hs2.out]; rfl), by go_num, _, rfl⟩
          | false =>
            go_wp2_with fail
            go_quiet (fail)
            go_wp2_with fail
            go_roundg (nr - (j + 1))
            case measure => omega
            case rel => exact ⟨j + 1, (x == fr), by omega, rfl, rfl, Lib.hid (by rw [hs2.out]; rfl), by go_num, _, rfl⟩
        · rw [show rs.take j = rs by rw [show j = nr by omega, ← hnr.out, List.take_length]] at hb
          cases bb with
          | false =>
            go_wp2_with fail
            go_quiet (fail)
            go_wp2_with fail
            go_roundg (len - (i + 1))
            case measure => omega
            case rel => exact ⟨i + 1, by omega, rfl, by go_num, Lib.hid (hV.out.drewN _).tail⟩
          | true =>
            have hin : fr ∈ rs := by
              have h := hb.out.symm
              rw [List.any_eq_true] at h
              obtain ⟨y, hy, he⟩ := h
              simp only [beq_iff_eq] at he
              exact he ▸ hy
            have h := (hfe.out hin).1
            cases h
    · go_wp2_with fail
      go_loopg [9] 0 (fun gm s9 W => gm = 0 ∧ s9 = .int .i64 0 ∧ Hid (Sep W [vec 3 1 (.slice ca 0 cp) 0 (xs.map (Value.int .i64)), old w]))
      case atStart => exact ⟨rfl, rfl, hV⟩
      case round =>
        obtain ⟨rfl, rfl, hV⟩ := hrel
        go_wp2_with fail
        go_ret
        exact ⟨rfl, hV.out.tail.gold⟩
set_option maxHeartbeats 20000000 in
set_option maxRecDepth 100000 in
/-- With a cycle. -/
theorem cycles_yes (a : Option Addr) (len cap : Nat) (L : List Ed) (xs : List Int) (w : World) (hcc : cyc L = (xs, true)) (hv1 : RL w (.slice a len cap) 2 L.length (L.flatMap Ed.cells)) (hlen : L.length = len) (h40 : len ≤ 40) :
    Calls Try.prog 4 #[.slice a len cap] w fun e w' => e = .returned (.bool true) ∧ Below w.heap.size w w' := by
  have hv := Lib.hid hv1
  clear hv1
  have i40 : ¬ ((40 : Int) < (len : Int)) := by omega
  have hl40 : L.length ≤ 1000 := by omega
  have HR := Lib.hid (fun q W (h : RL W (.slice a len cap) 2 L.length (L.flatMap Ed.cells)) => reachL_any (.slice a len cap) L q W h hl40)
  have HA := Lib.hid (fun W (h : RL W (.slice a len cap) 2 L.length (L.flatMap Ed.cells)) => acyclic_any (.slice a len cap) L W h hl40)
  have HC := Lib.hid (fun W (h : RL W (.slice a len cap) 2 L.length (L.flatMap Ed.cells)) => cycle_any (.slice a len cap) L W h hl40)
  have HI := Lib.hid (fun fr to W (h : RL W (.slice a len cap) 2 L.length (L.flatMap Ed.cells)) hm => in_any (.slice a len cap) L fr to W h hl40 hm)
  have hcl := cyc_len L
  have hok := cyc_ok L
  have hfst := Lib.hid (cyc_first L)
  have hedg := Lib.hid (cyc_edge L)
  have hnod := cyc_nodup L
  have hrl := Lib.hid (fun q => Nat.le_trans (rcL_le L q) hl40)
  have hrm := Lib.hid (rcL_mem L)
  rw [hcc] at hcl hok hfst hedg hnod
  simp only [hcc] at HA HC
  simp only at hcl hok hnod
  replace HA := Lib.hid HA.out
  replace HC := Lib.hid HC.out
  replace hfst := Lib.hid hfst.out
  replace hedg := Lib.hid hedg.out
  clear hcc
  obtain ⟨nc, hnc⟩ : ∃ nc, Hid (xs.length = nc) := ⟨_, rfl⟩
  rw [hnc.out] at hcl hok hedg
  simp only [hnc.out] at HC
  replace HC := Lib.hid HC.out
  have hnn := Lib.hid (fun k i (h1 : k < i) (h2 : i < nc) => show (xs.getD k 0 == xs.getD i 0) = false by
    rw [beq_eq_false_iff_ne]
    have h3 : i < xs.length := by rw [hnc.out]; exact h2
    have h4 := List.pairwise_iff_getElem.1 hnod k i (by omega) h3 h1
    simpa [List.getD, h3, show k < xs.length by omega] using h4)
  clear hnod
  have hnp : 0 < nc := by simpa using hok
  have inp : (0 : Int) < (nc : Int) := by omega
  clear hok
  go_enter Try.func4, Try.ntmps4
  go_wp2_with fail
  refine (lives_any _).mono ?_
  rintro e w1 ⟨rfl, q⟩
  have hV := Lib.hid ((Sep.start w).below q)
  clear q
  go_wp2_with fail
  refine (HC.out _ (hv.out.below hV.out.gold)).mono ?_
  rintro e w2 ⟨ca, cp, rfl, q⟩
  replace hV := Lib.hid (q.graft hV.out)
  clear q HC
  go_wp2_with fail
  refine (HA.out _ (hv.out.below hV.out.tail.gold)).mono ?_
  rintro e w3 ⟨rfl, q⟩
  replace hV := Lib.hid (hV.out.below q)
  clear q HA
  obtain ⟨cg, rfl⟩ := hV.out.vec_ptr hnp
  go_wp2_with fail
  go_loopg [5] len (fun gm s5 W => ∃ i : Nat, i ≤ len ∧ gm = len - i ∧ s5 = .int .i64 i ∧ Hid (Sep W [vec 3 1 (.slice (some ⟨cg, 0, none⟩) nc cp) nc (xs.map (Value.int .i64)), old w]))
  case atStart => exact ⟨0, Nat.zero_le _, rfl, rfl, hV⟩
  case round =>
    clear hV
    obtain ⟨i, hi, hgm, rfl, hV⟩ := hrel
    by_cases hlt : i < len
    · obtain ⟨b, off, rfl, hbl, zz⟩ := cells_ed (by have h := hv.out.below hV.out.tail.gold; rw [hlen] at h; exact h) hlen (by omega)
      have hil : i < L.length := by omega
      have hg : L[i]? = some (L.getD i default) := by rw [List.getElem?_eq_getElem hil]; simp [List.getD, hil]
      have z1 := zz i _ hg 0 _ rfl
      have hfe := hfst.out (L.getD i default) (List.mem_of_getElem? hg)
      rw [← hrm.out] at hfe
      rw [Nat.add_zero] at z1
      generalize (L.getD i default).from_ = fr at *
      have HR1 := Lib.hid (HR.out fr wr (hv.out.below hV.out.tail.gold))
      have hxl := hrl.out fr
      generalize rcL L fr = rs at *
      obtain ⟨nr, hnr⟩ : ∃ nr, Hid (rs.length = nr) := ⟨_, rfl⟩
      rw [hnr.out] at HR1 hxl
      replace hfe := Lib.hid hfe
      clear zz hg
      have i1 : (0 : Int) ≤ (i : Int) := by omega
      have i2 : (i : Int) < (len : Int) := by omega
      go_wp2_with fail
      refine HR1.out.mono ?_
      rintro e w4 ⟨ra, rp, rfl, q⟩
      have z2 := Lib.hid ((q.tail.gold.cell (p := ⟨b, off + i * 2, none⟩) hbl).trans z1)
      have hbl2 := Nat.lt_of_lt_of_le hbl q.tail.gold.size
      replace hV := Lib.hid (q.graft hV.out)
      clear q HR1 z1 hbl
      go_wp2_with fail
      go_loopg [7, 8] nr (fun gm s7 s8 W => ∃ (j : Nat) (bb : Bool), j ≤ nr ∧ gm = nr - j ∧ s7 = .bool bb ∧ Hid (bb = (rs.take j).any fun z => z == fr) ∧ s8 = .int .i64 j ∧ ∃ m, W = w4.drewN m)
      case atStart => exact ⟨0, false, Nat.zero_le _, rfl, rfl, Lib.hid rfl, rfl, 0, rfl⟩
      case round =>
        obtain ⟨j, bb, hj, hg2, rfl, hb, rfl, m, rfl⟩ := hrel
        have z3 := z2.out
        by_cases hlt2 : j < nr
        · obtain ⟨rg, rfl⟩ := hV.out.vec_ptr (by omega)
          have z := (hV.out.vec_cell (int_at (xs := rs) (i := j) (by rw [hnr.out]; exact hlt2))).1
          have hs2 := Lib.hid (show ((rs.take (j + 1)).any fun z => z == fr) = (bb || (rs.getD j 0 == fr)) by
            have hjl : j < rs.length := by rw [hnr.out]; exact hlt2
            have : rs.getD j 0 = rs[j] := by simp [List.getD, hjl]
            rw [this, List.take_succ_eq_append_getElem hjl, List.any_append, hb.out]
            simp)
          generalize rs.getD j 0 = x at *
          have j1 : (0 : Int) ≤ (j : Int) := by omega
          have j2 : (j : Int) < (nr : Int) := by omega
          cases bb with
          | true =>
            go_wp2_with fail
            go_quiet (fail)
            go_wp2_with fail
            go_roundg (nr - (j + 1))
            case measure => omega
            case rel => exact ⟨j + 1, true, by omega, rfl, rfl, Lib.hid (by rw [hs2.out]; rfl), by go_num, _, rfl⟩
          | false =>
            go_wp2_with fail
            go_quiet (fail)
            go_wp2_with fail
            go_roundg (nr - (j + 1))
            case measure => omega
            case rel => exact ⟨j + 1, (x == fr), by omega, rfl, rfl, Lib.hid (by rw [hs2.out]; rfl), by go_num, _, rfl⟩
        · rw [show rs.take j = rs by rw [show j = nr by omega, ← hnr.out, List.take_length]] at hb
          cases bb with
          | false =>
            go_wp2_with fail
            go_quiet (fail)
            go_wp2_with fail
            go_roundg (len - (i + 1))
            case measure => omega
            case rel => exact ⟨i + 1, by omega, rfl, by go_num, Lib.hid (hV.out.drewN _).tail⟩
          | true =>
            have hin : fr ∈ rs := by
              have h := hb.out.symm
              rw [List.any_eq_true] at h
              obtain ⟨y, hy, he⟩ := h
              simp only [beq_iff_eq] at he
              exact he ▸ hy
            have hfc := (hfe.out hin).2
            have zc := ((hV.out.to1).vec_cell (int_at (xs := xs) (i := 0) (by rw [hnc.out]; exact hnp))).1
            generalize xs.getD 0 0 = x0 at *
            have hdc : decide (fr < x0) = false := by simp; omega
            have hdd : ¬ fr < x0 := by omega
            go_wp2_with fail
            go_quiet (fail)
            go_wp2_with fail
            go_roundg (len - (i + 1))
            case measure => omega
            case rel => exact ⟨i + 1, by omega, rfl, by go_num, Lib.hid (hV.out.drewN _).tail⟩
    · go_wp2_with fail
      go_loopg [9] nc (fun gm s9 W => ∃ i : Nat, i ≤ nc ∧ gm = nc - i ∧ s9 = .int .i64 i ∧ Hid (Sep W [vec 3 1 (.slice (some ⟨cg, 0, none⟩) nc cp) nc (xs.map (Value.int .i64)), old w]))
      case atStart => exact ⟨0, Nat.zero_le _, rfl, rfl, hV⟩
      case round =>
        clear hV
        obtain ⟨i, hi, hgm, rfl, hV⟩ := hrel
        by_cases hlt : i < nc
        · have zi := Lib.hid (int_at (xs := xs) (i := i) (by rw [hnc.out]; exact hlt))
          have z0 := Lib.hid (int_at (xs := xs) (i := 0) (by rw [hnc.out]; exact hnp))
          have hed := hedg.out i hlt
          have hnn2 := Lib.hid (fun k (h : k < i) => hnn.out k i h hlt)
          have i1 : (0 : Int) ≤ (i : Int) := by omega
          have i2 : (i : Int) < (nc : Int) := by omega
          by_cases hlast : i + 1 < nc
          · rw [if_pos hlast] at hed
            have z1 := Lib.hid (int_at (xs := xs) (i := i + 1) (by rw [hnc.out]; exact hlast))
            have i3 : (i : Int) + 1 < (nc : Int) := by omega
            have i4 : (0 : Int) ≤ (i : Int) + 1 := by omega
            have y2 := (hV.out.vec_cell z1.out).1
            generalize xs.getD (i + 1) 0 = cn at *
            have y0 := (hV.out.vec_cell z0.out).1
            have y1 := (hV.out.vec_cell zi.out).1
            have hci := Lib.hid (fun k (h : k < i) => (hV.out.vec_cell (int_at (xs := xs) (i := k) (by rw [hnc.out]; omega))).1)
            generalize xs.getD i 0 = ci at *
            have HI1 := Lib.hid (HI.out ci cn wr (hv.out.below hV.out.tail.gold) hed)
            have wi : IntKind.i64.wrap ((i : Int) + 1) = (i : Int) + 1 := by
              apply IntWalk.i64_in
              omega
            go_wp2_with fail
            refine HI1.out.mono ?_
            rintro e w5 ⟨rfl, q⟩
            have hcg := hV.out.vec_cell zi.out
            replace y1 := (q.cell (p := ⟨cg, i, none⟩) hcg.2.2).trans y1
            replace hci := Lib.hid (fun k (h : k < i) => (q.cell (p := ⟨cg, k, none⟩) hcg.2.2).trans (hci.out k h))
            replace hV := Lib.hid (show Sep w5 [vec 3 1 (.slice (some ⟨cg, 0, none⟩) nc cp) nc (xs.map (Value.int .i64)), old w] from hV.out.below q)
            clear q HI1 wi y0 y2 hcg
            go_wp2_with fail
            go_loopg [11] i (fun gm s11 W => ∃ k : Nat, k ≤ i ∧ gm = i - k ∧ s11 = .int .i64 k ∧ ∃ m, W = w5.drewN m)
            case atStart => exact ⟨0, Nat.zero_le _, rfl, rfl, 0, rfl⟩
            case round =>
              obtain ⟨k, hk, hg2, rfl, m, rfl⟩ := hrel
              by_cases hlt3 : k < i
              · have y3 := hci.out k hlt3
                have hne := hnn2.out k hlt3
                generalize xs.getD k 0 = ck at *
                have k1 : (0 : Int) ≤ (k : Int) := by omega
                have k2 : (k : Int) < (nc : Int) := by omega
                have k3 : (k : Int) < (i : Int) := by omega
                go_wp2_with fail
                go_quiet (fail)
                go_wp2_with fail
                go_roundg (i - (k + 1))
                case measure => omega
                case rel => exact ⟨k + 1, by omega, rfl, by go_num, _, rfl⟩
              · have k3 : ¬ (k : Int) < (i : Int) := by omega
                go_wp2_with fail
                go_roundg (nc - (i + 1))
                case measure => omega
                case rel => exact ⟨i + 1, by omega, rfl, by go_num, Lib.hid (hV.out.drewN m)⟩
          · rw [if_neg hlast] at hed
            have i3 : ¬ (i : Int) + 1 < (nc : Int) := by omega
            have y2 := (hV.out.vec_cell z0.out).1
            generalize xs.getD 0 0 = cn at *
            have y0 := (hV.out.vec_cell z0.out).1
            have y1 := (hV.out.vec_cell zi.out).1
            have hci := Lib.hid (fun k (h : k < i) => (hV.out.vec_cell (int_at (xs := xs) (i := k) (by rw [hnc.out]; omega))).1)
            generalize xs.getD i 0 = ci at *
            have HI1 := Lib.hid (HI.out ci cn wr (hv.out.below hV.out.tail.gold) hed)
            have wi : IntKind.i64.wrap ((i : Int) + 1) = (i : Int) + 1 := by
              apply IntWalk.i64_in
              omega
            go_wp2_with fail
            refine HI1.out.mono ?_
            rintro e w5 ⟨rfl, q⟩
            have hcg := hV.out.vec_cell zi.out
            replace y1 := (q.cell (p := ⟨cg, i, none⟩) hcg.2.2).trans y1
            replace hci := Lib.hid (fun k (h : k < i) => (q.cell (p := ⟨cg, k, none⟩) hcg.2.2).trans (hci.out k h))
            replace hV := Lib.hid (show Sep w5 [vec 3 1 (.slice (some ⟨cg, 0, none⟩) nc cp) nc (xs.map (Value.int .i64)), old w] from hV.out.below q)
            clear q HI1 wi y0 y2 hcg
            go_wp2_with fail
            go_loopg [11] i (fun gm s11 W => ∃ k : Nat, k ≤ i ∧ gm = i - k ∧ s11 = .int .i64 k ∧ ∃ m, W = w5.drewN m)
            case atStart => exact ⟨0, Nat.zero_le _, rfl, rfl, 0, rfl⟩
            case round =>
              obtain ⟨k, hk, hg2, rfl, m, rfl⟩ := hrel
              by_cases hlt3 : k < i
              · have y3 := hci.out k hlt3
                have hne := hnn2.out k hlt3
                generalize xs.getD k 0 = ck at *
                have k1 : (0 : Int) ≤ (k : Int) := by omega
                have k2 : (k : Int) < (nc : Int) := by omega
                have k3 : (k : Int) < (i : Int) := by omega
                go_wp2_with fail
                go_quiet (fail)
                go_wp2_with fail
                go_roundg (i - (k + 1))
                case measure => omega
                case rel => exact ⟨k + 1, by omega, rfl, by go_num, _, rfl⟩
              · have k3 : ¬ (k : Int) < (i : Int) := by omega
                go_wp2_with fail
                go_roundg (nc - (i + 1))
                case measure => omega
                case rel => exact ⟨i + 1, by omega, rfl, by go_num, Lib.hid (hV.out.drewN m)⟩
        · go_wp2_with fail
          go_ret
          exact ⟨rfl, hV.out.tail.gold⟩
end Go.Proofs.Ytcnkmhfcgkbhbaa
